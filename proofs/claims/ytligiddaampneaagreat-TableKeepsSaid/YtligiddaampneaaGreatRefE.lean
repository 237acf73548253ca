/- The reference goes down into registers: it takes what the program takes. For every list of registers that lies in memory, to a depth of six. -/
import Derived.Test.YtligiddaampneaaGreatRefD
import Derived.Test.YtligiddaampneaaGreatMgG
import Derived.Deep.Cut
import Derived.Deep.CutBlock
import Derived.Deep.DeepCutAuto
import Derived.Deep.AppendLies
set_option maxRecDepth 100000
set_option maxHeartbeats 16000000
-- shrunk
namespace Go.Proofs.YtligiddaampneaaGreat
open Go.RowKit
attribute [local go_sem] Oper.semAt_some
structure GeoIn (W:World) (n0 bg:Nat) (vN vP:Value) (x:Int) (N:List ByteArray) (L:List Pl):Prop where
 blk:W.heap[bg]?=some (.cells #[vN,vP,.int .i64 x] 147 (0,0))
 nm:W.ownsRow n0 9 1 vN N.length (N.map Value.string)
 pl:W.ownsRow n0 88 3 vP L.length (plCells L)
 le:n0≤bg
def GFoot (bg:Nat) (vN vP:Value) (k:Nat):Prop:=k=bg∨vN.ownBlock=some k∨vP.ownBlock=some k
def GPost (W:World) (n0 bg:Nat) (vN vP:Value) (r:Except Int Wk) (e:Ending) (W':World):Prop :=
 e=.returned (.tuple #[])∧Keep (GFoot bg vN vP) W W'∧match r with
  | .error x=>∃ vN' vP',W'.heap[bg]?=some (.cells #[vN',vP',.int .i64 x] 147 (0,0))
  | .ok σ'=>∃ vN' vP',GeoIn W' n0 bg vN' vP' 0 σ'.names σ'.places∧(∀ k,vN'.ownBlock=some k→vN.ownBlock=some k∨W.heap.size≤k)∧(∀ k,vP'.ownBlock=some k→vP.ownBlock=some k∨W.heap.size≤k)
structure GAt (W:World) (n0 bg:Nat) (vN vP:Value) (d k:Nat) (l:List RegT) (q:Pl) (res:Except Int Wk) (i:Nat) (σ:Wk) (vN1 vP1 vD:Value) (D:List Pl) (wr:World):Prop where
 geo:GeoIn wr n0 bg vN1 vP1 0 σ.names σ.places
 keep:Keep (GFoot bg vN vP) W wr
 fn:∀ k,vN1.ownBlock=some k→vN.ownBlock=some k∨W.heap.size≤k
 fp:∀ k,vP1.ownBlock=some k→vP.ownBlock=some k∨W.heap.size≤k
 ways:σ.ways[d - 1]?=some (q,D)
 done:wr.ownsRow W.heap.size 88 3 vD D.length (plCells D)
 apart:∀ k,vD.ownBlock=some k→vP1.ownBlock≠some k
 res:stepsS (fun σ r=>match oneS σ r.name r.width r.beg d with
  | .ok σ'=>downS k (d+1) r.subs σ'
  | .error x=>.error x) (l.drop i) σ=res
 top:d=1→σ.roots=i
 few:Few σ
 tight:∀ p∈D,p.tight
 lenN:D.length≤σ.names.length∧σ.places.length=σ.names.length
def chkS (d:Nat) (N:List ByteArray) (width:Int) (name:ByteArray) (w beg:Int):Option Int :=
 if 6<d then some 4 else if 200≤N.length then some 2 else if (namedS name && !(memB name N))=false then some 5 else if badS d width w beg=true then some 6 else none
theorem badS_one {d:Nat} {a b w beg:Int} (h:1<d→a=b):badS d a w beg=badS d b w beg:=by
 unfold badS
 by_cases hd:1<d
 ·rw [h hd]
 ·rw [decide_eq_decide];omega
theorem chk_err {σ:Wk} {name:ByteArray} {w beg x width:Int} {d:Nat} {q:Pl} {D:List Pl} (hd:1≤d) (hq:σ.ways[d - 1]?=some (q,D)) (hw:1<d→q.width=width) (h:chkS d σ.names width name w beg=some x):oneS σ name w beg d=.error x∧x≠0:=by
 rw [oneS_ref hd hq,badS_one hw]
 unfold chkS at h
 split at h
 ·rename_i h1;cases h;rw [if_pos h1];exact ⟨rfl,by decide⟩
 ·rename_i h1
  rw [if_neg h1]
  split at h
  ·rename_i h2;cases h;rw [if_pos h2];exact ⟨rfl,by decide⟩
  ·rename_i h2
   rw [if_neg h2]
   split at h
   ·rename_i h3;cases h;rw [if_pos h3];exact ⟨rfl,by decide⟩
   ·rename_i h3
    rw [if_neg h3]
    split at h
    ·rename_i h4;cases h;rw [if_pos h4];exact ⟨rfl,by decide⟩
    ·cases h
theorem chk_none {σ:Wk} {name:ByteArray} {w beg width:Int} {d:Nat} {p q:Pl} {D:List Pl} (hd:1≤d) (hq:σ.ways[d - 1]?=some (q,D)) (hw:1<d→q.width=width∧q.tight) (hF:Few σ) (hp:p=if d=1 then ⟨σ.roots,beg,w⟩ else ⟨q.root,q.beg+beg,w⟩) (h:chkS d σ.names width name w beg=none) :
  d≤6∧σ.names.length<200∧(1≤w∧w≤64∧0≤beg∧beg≤64)∧p.tight∧oneS σ name w beg d=if D.any (lapS p)=true then .error 7 else .ok (tookS σ name d p (if d=1 then σ.roots+1 else σ.roots)):=by
 rw [oneS_ref hd hq,badS_one (fun h=>(hw h).1),← hp]
 unfold chkS at h
 split at h
 ·cases h
 rename_i h1
 split at h
 ·cases h
 rename_i h2
 split at h
 ·cases h
 rename_i h3
 split at h
 ·cases h
 rename_i h4
 rw [if_neg h1,if_neg h2,if_neg h3,if_neg h4]
 unfold badS at h4
 rw [decide_eq_true_eq] at h4
 obtain ⟨hF1,hF2⟩:=hF
 have ht:(1≤w∧w≤64∧0≤beg∧beg≤64)∧p.tight:=by
  by_cases h5:d=1
  ·rw [if_pos h5] at hp
   subst hp
   exact ⟨by omega,⟨by show 0≤σ.roots;omega,by show σ.roots≤200;omega⟩,by show 0≤beg;omega,by show 1≤w;omega,by show beg+w≤64;omega⟩
  ·rw [if_neg h5] at hp
   obtain ⟨h6,⟨h7,h8⟩,h9,h10,h11⟩:=hw (by omega)
   subst hp
   exact ⟨by omega,⟨h7,h8⟩,by show 0≤q.beg+beg;omega,by show 1≤w;omega,by show q.beg+beg+w≤64;omega⟩
 exact ⟨by omega,by omega,ht.1,ht.2,rfl⟩
theorem lap_comm {a b:Pl} (ha:a.tight) (hb:b.tight):lapS a b=lapS b a:=by
 rw [lap_tight ha hb,lap_tight hb ha,Bool.eq_iff_iff]
 simp only [Bool.and_eq_true,decide_eq_true_eq]
 omega
theorem owns_types {w:World} {b1 b2 s1 s2:Nat} {t1 t2:TypeId} {v1 v2:Value} {n1 n2:Nat} {l1 l2:List Value} (h1:w.ownsRow b1 t1 s1 v1 n1 l1) (h2:w.ownsRow b2 t2 s2 v2 n2 l2) (hne:t1≠t2) {k:Nat} (e1:v1.ownBlock=some k):v2.ownBlock≠some k:=by
 intro e2
 rcases h1.2 with ⟨rfl,_⟩ | ⟨g,c,u,rfl,_,hg,_⟩
 ·cases e1
 ·cases e1
  rcases h2.2 with ⟨rfl,_⟩ | ⟨g2,c2,u2,rfl,_,hg2,_⟩
  ·cases e2
  ·cases e2
   rw [hg] at hg2
   cases hg2
   exact hne rfl
theorem downS_ind {R:Wk→Wk→Prop} (hr:∀ σ,R σ σ) (ht:∀ a b c,R a b→R b c→R a c) (h1:∀ (σ σ':Wk) (name:ByteArray) (w beg:Int) (d:Nat),oneS σ name w beg d=.ok σ'→R σ σ') (k:Nat):∀ (d:Nat) (l:List RegT) (σ σ':Wk),downS k d l σ=.ok σ'→R σ σ':=by
 induction k with
 | zero=>intro d l σ σ' h;simp only [downS] at h;cases h;exact hr _
 | succ k ih =>
  intro d l
  induction l with
  | nil=>intro σ σ' h;simp only [downS,stepsS] at h;cases h;exact hr _
  | cons r l ihl =>
   intro σ σ' h
   simp only [downS,stepsS] at h
   cases h2:oneS σ r.name r.width r.beg d with
   | error x=>rw [h2] at h;cases h
   | ok σ1 =>
    rw [h2] at h
    dsimp only at h
    cases h3:downS k (d+1) r.subs σ1 with
    | error x=>rw [h3] at h;cases h
    | ok σ2 =>
     rw [h3] at h
     exact ht _ _ _ (h1 _ _ _ _ _ _ h2) (ht _ _ _ (ih _ _ _ _ h3) (ihl σ2 σ' (by simp only [downS];exact h)))
theorem downS_names {k d:Nat} {l:List RegT} {σ σ':Wk} (h:downS k d l σ=.ok σ'):σ.names.length≤σ'.names.length∧(σ.places.length=σ.names.length→σ'.places.length=σ'.names.length):=by
 refine downS_ind (R:=fun σ σ'=>σ.names.length≤σ'.names.length∧(σ.places.length=σ.names.length→σ'.places.length=σ'.names.length)) (fun σ=>⟨Nat.le_refl _,id⟩) (fun a b c h1 h2=>⟨Nat.le_trans h1.1 h2.1,fun h=>h2.2 (h1.2 h)⟩) (fun σ σ' name w beg d h=>?_) k d l σ σ' h
 obtain ⟨_,_,_,p,roots,_,_,rfl⟩:=oneS_took h
 simp only [tookS,List.length_append,List.length_cons,List.length_nil]
 omega
theorem oneS_ne0 {σ:Wk} {name:ByteArray} {w beg x:Int} {d:Nat} (h:oneS σ name w beg d=.error x):x≠0:=by
 unfold oneS at h
 split at h
 ·cases h;decide
 split at h
 ·cases h;decide
 split at h
 ·cases h;decide
 split at h
 ·cases h;decide
 split at h
 ·rename_i e hp
  cases h
  unfold placeS at hp
  split at hp
  ·split at hp
   ·cases hp
   ·cases hp;decide
  ·split at hp
   ·split at hp
    ·cases hp
    ·cases hp;decide
   ·cases hp;decide
 ·split at h
  ·cases h;decide
  ·cases h
theorem downS_ne0 (k:Nat):∀ (d:Nat) (l:List RegT) (σ:Wk) (x:Int),downS k d l σ=.error x→x≠0:=by
 induction k with
 | zero=>intro d l σ x h;simp only [downS] at h;cases h
 | succ k ih =>
  intro d l
  induction l with
  | nil=>intro σ x h;simp only [downS,stepsS] at h;cases h
  | cons r l ihl =>
   intro σ x h
   simp only [downS,stepsS] at h
   cases h2:oneS σ r.name r.width r.beg d with
   | error y=>rw [h2] at h;cases h;exact oneS_ne0 h2
   | ok σ1 =>
    rw [h2] at h
    dsimp only at h
    cases h3:downS k (d+1) r.subs σ1 with
    | error y=>rw [h3] at h;cases h;exact ih _ _ _ _ h3
    | ok σ2 =>
     rw [h3] at h
     exact ihl σ2 x (by simp only [downS];exact h)
def GErr (W:World) (bg:Nat) (vN vP:Value) (res:Except Int Wk) (wr:World):Prop :=
 ∃ x vN' vP',x≠0∧res=.error x∧Keep (GFoot bg vN vP) W wr∧wr.heap[bg]?=some (.cells #[vN',vP',.int .i64 x] 147 (0,0))
theorem downR_any (k:Nat):∀ (d:Nat) (l:List RegT) (v:Value) (σ:Wk) (W:World) (root frm width:Int) (bg n0:Nat) (vN vP:Value) (q:Pl),
  d+k=8→1≤d→d≤7→RegsIn W n0 v l→GeoIn W n0 bg vN vP 0 σ.names σ.places→σ.ways[d - 1]?=some (q,[])→(1<d→q=⟨root,frm,width⟩∧q.tight)→(d=1→σ.roots=0)→Few σ→σ.places.length=σ.names.length →
  Calls Tryz.prog 118 #[.pointer (some ⟨bg,0,none⟩),v,.int .i64 (d:Int),.int .i64 root,.int .i64 frm,.int .i64 width] W (GPost W n0 bg vN vP (downS k d l σ)):=by
 induction k with
 | zero=>intro d _ _ _ _ _ _ _ _ _ _ _ _ h _ h7;omega
 | succ k ih =>
 intro d l v σ W root frm width bg n0 vN vP q hdk hd1 hd7 hv hg hway hq hr0 hfew hlen
 obtain ⟨a,cap,rfl,hl1,hl2⟩:=hv.form
 unfold maxLen at hl2
 generalize hres:downS (k+1) d l σ=res
 have start:Hid (GAt W n0 bg vN vP d k l q res 0 σ vN vP (.slice none 0 0) [] W∨GErr W bg vN vP res W):=qh (Or.inl ⟨hg,Keep.refl _ _,fun _ h=>Or.inl h,fun _ h=>Or.inl h,hway,World.ownsRow_nil _ _ _ _,(fun _ h=>by cases h),(by rw [List.drop_zero];exact hres),hr0,hfew,(fun p h=>by cases h),Nat.zero_le _,hlen⟩)
 have HIH:=qh ih
 have HV:=qh hv
 have HQ:=qh hq
 have hbl:n0≤bg:=hg.le
 have hbw:bg<W.heap.size:=(Array.getElem?_eq_some_iff.1 hg.blk).1
 have hbN:∀ k,GFoot bg vN vP k→n0≤k:=by
  intro k h
  rcases h with rfl | h | h
  ·exact hbl
  ·exact (hg.nm.lt k h).1
  ·exact (hg.pl.lt k h).1
 have HBN:=qh hbN
 clear hbN
 clear ih hv hg hway hq hr0 hfew hres hlen
 go_enter Tryz.func118,Tryz.ntmps118
 go_wp2
 go_loopw [3,4,12,13] (fun rt fr dn i wr=>∃ j:Nat,j≤l.length∧i=.int .i64 j∧∃ σ1 vN1 vP1 aD cD D r1 f1,rt=.int .i64 r1∧fr=.int .i64 f1∧dn=.slice aD D.length cD∧(1<d→r1=root∧f1=frm)∧Hid (GAt W n0 bg vN vP d k l q res j σ1 vN1 vP1 (.slice aD D.length cD) D wr∨GErr W bg vN vP res wr)) (fun _ _ _ i _=>l.length - (intOf i).toNat)
 case atStart=>exact ⟨0,by omega,rfl,σ,vN,vP,none,0,[],_,_,rfl,rfl,rfl,fun _=>⟨rfl,rfl⟩,start⟩
 case round =>
  clear start
  obtain ⟨j,hj,rfl,σ1,vN1,vP1,aD,cD,D,r1,f1,rfl,rfl,rfl,hrf,HA⟩:=hrel
  rename World=>w0
  rcases HA.out with hat | herr
  case inr =>
   obtain ⟨x,vN',vP',hx0,hres,hk,hb⟩:=herr
   have g2:=blk_cell (l:=[vN',vP',.int .i64 x]) hb 2 _ rfl
   have hx1:(x == 0)=false:=by simpa using hx0
   have HR:=qh (And.intro hres (And.intro hk hb))
   clear hres hk hb HA
   by_cases hlt:j<l.length
   ·have hjz:(j:Int)<(l.length:Int):=by omega
    go_wp2
    go_end0
    rw [HR.out.1]
    exact ⟨rfl,HR.out.2.1,_,_,HR.out.2.2⟩
   ·have hjz:¬ (j:Int)<(l.length:Int):=by omega
    go_wp2
    go_end0
    rw [HR.out.1]
    exact ⟨rfl,HR.out.2.1,_,_,HR.out.2.2⟩
  case inl =>
  have HA:Hid (GAt W n0 bg vN vP d k l q res j σ1 vN1 vP1 (.slice aD D.length cD) D w0):=qh hat
  clear hat
  have gb:=HA.out.geo.blk
  have g2:=blk_cell gb 2 _ rfl
  have gf2:=blk_free gb 2
  have lb:=(Array.getElem?_eq_some_iff.1 gb).1
  by_cases hlt:j<l.length
  case neg =>
   have hjz:¬ (j:Int)<(l.length:Int):=by omega
   have hres:res=.ok σ1:=by
    have:=HA.out.res
    rw [List.drop_of_length_le (by omega)] at this
    simp only [stepsS] at this
    exact this.symm
   have HRES:=qh hres
   clear hres gb
   go_wp2
   go_end0
   rw [HRES.out]
   exact ⟨rfl,HA.out.keep,vN1,vP1,HA.out.geo,HA.out.fn,HA.out.fp⟩
  case pos =>
  have hjz:(j:Int)<(l.length:Int):=by omega
  obtain ⟨r,hr⟩:∃ r,l[j]?=some r:=⟨_,lE hlt⟩
  have hkn:∀ x,x<n0→w0.heap[x]?=W.heap[x]?:=fun x hx=>HA.out.keep.block x (by omega) (fun h=>by have:=HBN.out x h;omega)
  obtain ⟨b,off,cap2,ua,uc,e,_,_,hb,c0,c1,c2,c3,hs,hwid,hbeg⟩:=(HV.out.same hkn).at hr
  cases e
  have hstep:=HA.out.res
  rw [drop_step hr] at hstep
  have HSTEP:=qh hstep
  have HS:=qh hs
  have hwid:=qh hwid
  have hbeg:=qh hbeg
  clear hstep hr hs hkn gb
  have X1:Ext w0 (w0.alloc (.cells #[.string r.name,.int .i64 r.width,.int .i64 r.beg,.slice ua r.subs.length uc] 70)):=Ext.alloc _ _
  have hcc:=cells_one w0 [.string r.name,.int .i64 r.width,.int .i64 r.beg,.slice ua r.subs.length uc] 70
  have r0:=hcc 0 _ rfl
  have r1':=hcc 1 _ rfl
  have r2':=hcc 2 _ rfl
  have r3':=hcc 3 _ rfl
  clear hcc
  go_upto_region 5 with (fail)
  generalize w0.alloc (.cells #[.string r.name,.int .i64 r.width,.int .i64 r.beg,.slice ua r.subs.length uc] 70)=w1 at X1 r0 r1' r2' r3' ⊢
  have gw1:=X1.block HA.out.geo.blk
  have hrl:w0.heap.size<w1.heap.size:=World.block_lt_of_cell? w1 _ r0
  have X1:=qh X1
  obtain ⟨br,hbr⟩:∃ b,b=w0.heap.size:=⟨_,rfl⟩
  rw [← hbr] at r0 r1' r2' r3' ⊢
  have HBR:=qh hbr
  rw [← hbr] at hrl
  clear hbr
  go_upto_if 37 with (fail)
  go_cut [3,4] from 36 to 39 (fun rt fr wx=>wx=w1∧∃ r2 f2:Int,rt=.int .i64 r2∧fr=.int .i64 f2∧(d=1→r2=j∧f2=0)∧(1<d→r2=root∧f2=frm))
  case first =>
   by_cases hd1z:d=1
   ·have hdz:((d:Int) == 1)=true:=by simp [hd1z]
    have hdz2:(d:Int)=1:=by omega
    go_wp2_with fail
    go_meet
    case rel=>exact ⟨rfl,_,_,rfl,rfl,fun _=>⟨rfl,rfl⟩,fun h=>by omega⟩
   ·have hdz:((d:Int) == 1)=false:=by simp;omega
    have hdz2:¬ (d:Int)=1:=by omega
    go_wp2_with fail
    go_meet
    case rel=>exact ⟨rfl,_,_,rfl,rfl,fun h=>absurd h hd1z,hrf⟩
  case rest =>
  obtain ⟨rfl,r2,f2,rfl,rfl,hf1,hf2⟩:=hcut
  have HF1:=qh hf1
  have HF2:=qh hf2
  clear hf1 hf2
  go_upto_block 2 with (go_at_call 94;refine (namedR_any _ _).mono ?_;rintro e w' ⟨rfl,rfl⟩)
  obtain ⟨aN,cN,evN,_,_⟩:=(Row.of_owns HA.out.geo.nm).shape
  subst evN
  have g0:=blk_cell gw1 0 _ rfl
  have g1:=blk_cell gw1 1 _ rfl
  have g2:=blk_cell gw1 2 _ rfl
  have gf2:=blk_free gw1 2
  have lb:=(Array.getElem?_eq_some_iff.1 gw1).1
  have GW:=qh gw1
  have hstr:SliceStrs wc (.slice aN σ1.names.length cN) σ1.names:=Row.below (Row.of_owns HA.out.geo.nm) X1.out
  have HSTR:=qh hstr
  clear hstr gw1
  go_cut [15] from 39 to 119 (fun nmv wx=>(∃ b:Bool,nmv=.bool b)∧∃ wy,Ext wc wy∧wx=match chkS d σ1.names width r.name r.width r.beg with | none=>wy | some x=>wy.setCell ⟨bg,2,none⟩ (.int .i64 x))
  case first =>
   by_cases t1:6<d
   ·have E:Hid (chkS d σ1.names width r.name r.width r.beg=some 4):=qh (by unfold chkS;rw [if_pos t1])
    have t1z:(6:Int)<(d:Int):=by omega
    go_wp2_with fail
    go_meet
    case rel=>exact ⟨⟨_,rfl⟩,wc,Ext.refl _,by rw [E.out]⟩
   have t1z:¬ (6:Int)<(d:Int):=by omega
   by_cases t2:200≤σ1.names.length
   ·have E:Hid (chkS d σ1.names width r.name r.width r.beg=some 2):=qh (by unfold chkS;rw [if_neg t1,if_pos t2])
    have t2z:(200:Int)≤(σ1.names.length:Int):=by omega
    go_wp2_with fail
    go_meet
    case rel=>exact ⟨⟨_,rfl⟩,wc,Ext.refl _,by rw [E.out]⟩
   have t2z:¬ (200:Int)≤(σ1.names.length:Int):=by omega
   cases hnm:namedS r.name with
   | false =>
    have E:Hid (chkS d σ1.names width r.name r.width r.beg=some 5):=qh (by unfold chkS;rw [if_neg t1,if_neg t2,if_pos (by rw [hnm];rfl)])
    clear hnm
    go_upto_region 13 with (fail)
    go_quiet (fail)
    have xq:=qh (Ext.drewN wc nq)
    go_wp2_with fail
    go_meet
    case rel=>exact ⟨⟨_,rfl⟩,_,xq.out,by rw [E.out]⟩
   | true =>
    by_cases t3:0≤idx σ1.names r.name
    ·have E:Hid (chkS d σ1.names width r.name r.width r.beg=some 5):=qh (by unfold chkS;rw [if_neg t1,if_neg t2,if_pos (by rw [hnm,memB_idx,decide_eq_true t3];rfl)])
     clear hnm
     go_upto_region 13 with (fail)
     go_quiet ((go_at_call 85;exact quiet_same (findR_any _ σ1.names _ _ (by exact HSTR.out))))
     have xq:=qh (Ext.drewN wc nq)
     go_wp2_with fail
     go_meet
     case rel=>exact ⟨⟨_,rfl⟩,_,xq.out,by rw [E.out]⟩
    ·have t3d:decide (0≤idx σ1.names r.name)=false:=decide_eq_false t3
     go_upto_region 13 with (fail)
     go_quiet ((go_at_call 85;exact quiet_same (findR_any _ σ1.names _ _ (by exact HSTR.out))))
     have xq:=qh (Ext.drewN wc nq)
     have r0:=xc xq.out r0
     have r1':=xc xq.out r1'
     have r2':=xc xq.out r2'
     have r3':=xc xq.out r3'
     have g2:=xc xq.out g2
     have gf2:=blk_free (xq.out.block GW.out) 2
     have lb:=Nat.lt_of_lt_of_le lb xq.out.size
     have hrl:=Nat.lt_of_lt_of_le hrl xq.out.size
     have hnm:=qh hnm
     generalize wc.drewN nq=wd at xq r0 r1' r2' r3' g2 gf2 lb hrl ⊢
     go_upto_region 15 with (fail)
     obtain ⟨w9,hw9⟩:∃ x,r.width=x:=⟨_,rfl⟩
     obtain ⟨b9,hb9⟩:∃ x,r.beg=x:=⟨_,rfl⟩
     rw [hw9] at r1'
     rw [hb9] at r2'
     have EB:Hid (∀ x,badS d width w9 b9=x→chkS d σ1.names width r.name r.width r.beg=if x=true then some 6 else none):=qh (fun x hx=>by unfold chkS;rw [if_neg t1,if_neg t2,if_neg (by rw [hnm.out,memB_idx,decide_eq_false t3];simp),hw9,hb9,hx])
     have hwl:=hwid.out
     have hbl9:=hbeg.out
     rw [hw9] at hwl
     rw [hb9] at hbl9
     obtain ⟨hwl1,hwl2⟩:=hwl
     obtain ⟨hbl1,hbl2⟩:=hbl9
     clear hw9 hb9
     by_cases k1:w9<1
     ·skip
      have E:=qh (EB.out true (by unfold badS;first | exact decide_eq_true (by omega) | exact decide_eq_false (by omega)))
      clear EB
      go_wp2_with fail
      go_meet
      case rel=>exact ⟨⟨_,rfl⟩,wd,xq.out,by rw [E.out];rfl⟩
     by_cases k2:64<w9
     ·skip
      have E:=qh (EB.out true (by unfold badS;first | exact decide_eq_true (by omega) | exact decide_eq_false (by omega)))
      clear EB
      go_wp2_with fail
      go_meet
      case rel=>exact ⟨⟨_,rfl⟩,wd,xq.out,by rw [E.out];rfl⟩
     by_cases k3:b9<0
     ·skip
      have E:=qh (EB.out true (by unfold badS;first | exact decide_eq_true (by omega) | exact decide_eq_false (by omega)))
      clear EB
      go_wp2_with fail
      go_meet
      case rel=>exact ⟨⟨_,rfl⟩,wd,xq.out,by rw [E.out];rfl⟩
     by_cases hd1z:d=1
     ·have hdz:((d:Int) == 1)=true:=by simp [hd1z]
      have hdz3:¬ (1:Int)<(d:Int):=by omega
      by_cases k4:b9=0
      ·have k4z:(b9 != 0)=false:=by simp [k4]
       have E:=qh (EB.out false (by unfold badS;first | exact decide_eq_true (by omega) | exact decide_eq_false (by omega)))
       clear EB hd1z
       go_wp2_with fail
       go_meet
       case rel=>exact ⟨⟨_,rfl⟩,wd,xq.out,by rw [E.out];rfl⟩
      ·have k4z:(b9 != 0)=true:=by simp [k4]
       have E:=qh (EB.out true (by unfold badS;first | exact decide_eq_true (by omega) | exact decide_eq_false (by omega)))
       clear EB hd1z
       go_wp2_with fail
       go_meet
       case rel=>exact ⟨⟨_,rfl⟩,wd,xq.out,by rw [E.out];rfl⟩
     ·have hdz:((d:Int) == 1)=false:=by simp;omega
      have hdz2:¬ (d:Int)=1:=by omega
      have hdz3:(1:Int)<(d:Int):=by omega
      obtain ⟨hqe,_,ht1,ht2,ht3⟩:=HQ.out (by omega)
      rw [hqe] at ht1 ht2 ht3
      dsimp only at ht1 ht2 ht3
      clear hqe
      by_cases k5:width<b9
      ·skip
       have E:=qh (EB.out true (by unfold badS;first | exact decide_eq_true (by omega) | exact decide_eq_false (by omega)))
       clear EB
       go_wp2_with fail
       go_meet
       case rel=>exact ⟨⟨_,rfl⟩,wd,xq.out,by rw [E.out];rfl⟩
      have e5:IntKind.i64.wrap (width - b9)=width - b9:=IntWalk.i64_in _ (by omega)
      by_cases k6:width - b9<w9
      ·skip
       have E:=qh (EB.out true (by unfold badS;first | exact decide_eq_true (by omega) | exact decide_eq_false (by omega)))
       clear EB
       go_wp2_with fail
       go_meet
       case rel=>exact ⟨⟨_,rfl⟩,wd,xq.out,by rw [E.out];rfl⟩
      have E:=qh (EB.out false (by unfold badS;first | exact decide_eq_true (by omega) | exact decide_eq_false (by omega)))
      clear EB
      go_wp2_with fail
      go_meet
      case rel=>exact ⟨⟨_,rfl⟩,wd,xq.out,by rw [E.out];rfl⟩
  case rest =>
  obtain ⟨⟨bb,rfl⟩,wy,xy,hwc⟩:=hcut
  cases hck:chkS d σ1.names width r.name r.width r.beg with
  | some x =>
   rw [hck] at hwc
   dsimp only at hwc
   subst hwc
   obtain ⟨hone,hx0⟩:=chk_err hd1 HA.out.ways (fun h=>by rw [(HQ.out h).1]) hck
   have hres:res=.error x:=by
    have:=HSTEP.out
    rw [hone] at this
    exact this.symm
   have HRES:=qh hres
   have gy:=xy.block GW.out
   have gs:=heap_set_cells gy 2 (.int .i64 x)
   have KW:Hid (Keep (GFoot bg vN vP) W (wy.setCell ⟨bg,2,none⟩ (.int .i64 x))):=qh ((HA.out.keep.trans (Keep.of_ext (X1.out.trans xy):Keep (GFoot bg vN vP) w0 wy) (fun _ _ h=>h)).trans (Keep.setCell (GFoot bg vN vP) wy ⟨bg,2,none⟩ (.int .i64 x) (Or.inl rfl)) (fun _ _ h=>h))
   have hxb:(x != 0)=true:=by simpa using hx0
   have GS:=qh gs
   have c2x:=blk_cell (l:=[.slice aN σ1.names.length cN,vP1,.int .i64 x]) gs 2 _ rfl
   clear hres hck hone hx0 gy gs
   generalize wy.setCell ⟨bg,2,none⟩ (.int .i64 x)=wz at KW GS c2x ⊢
   go_wp2_with fail
   refine bodyPost_ret (results_none rfl _ _ _) rfl ?_
   rw [HRES.out]
   exact ⟨rfl,KW.out,_,_,GS.out⟩
  | none =>
   rw [hck] at hwc
   dsimp only at hwc
   have hwc:=hwc.symm
   subst hwc
   obtain ⟨p,hp⟩:∃ p:Pl,p=⟨r2,f2+r.beg,r.width⟩:=⟨_,rfl⟩
   have hpe:p=if d=1 then ⟨σ1.roots,r.beg,r.width⟩ else ⟨q.root,q.beg+r.beg,r.width⟩:=by
    by_cases h:d=1
    ·obtain ⟨e1,e2⟩:=HF1.out h
     rw [if_pos h,hp,e1,e2,HA.out.top h,Int.zero_add]
    ·obtain ⟨e1,e2⟩:=HF2.out (by omega)
     rw [if_neg h,hp,e1,e2,(HQ.out (by omega)).1]
   obtain ⟨hd6,hn200,hb64,hpt,hone⟩:=chk_none hd1 HA.out.ways (fun h=>⟨by rw [(HQ.out h).1],(HQ.out h).2⟩) HA.out.few hpe hck
   have hD200:D.length<200:=by have:=HA.out.lenN.1;omega
   have hp1:r2=p.root:=by rw [hp]
   have hp2:f2+r.beg=p.beg:=by rw [hp]
   have hp3:r.width=p.width:=by rw [hp]
   have hpt2:=hpt
   obtain ⟨⟨pr1,pr2⟩,pb1,pw1,pbw⟩:=hpt2
   have e18:IntKind.i64.wrap (f2+r.beg)=p.beg:=by rw [hp2];exact IntWalk.i64_in _ (by omega)
   have gy:=xy.block GW.out
   have r0:=xc xy r0
   have r1':=xc xy r1'
   have r2':=xc xy r2'
   have r3':=xc xy r3'
   rw [hp3] at r1'
   have g2:=blk_cell gy 2 _ rfl
   have X12:=qh (X1.out.trans xy)
   have HPE:=qh hpe
   have HONE:=qh hone
   have HPT:=qh hpt
   have GY:=qh gy
   clear hp hpe hone hpt hp2 hck gy
   subst hp1
   have x2:Ext wy (wy.alloc (.cells #[.int .i64 p.root,.int .i64 p.beg,.int .i64 p.width] 88)):=Ext.alloc _ _
   have hcc:=cells_one wy [.int .i64 p.root,.int .i64 p.beg,.int .i64 p.width] 88
   have p0:=hcc 0 _ rfl
   have p1:=hcc 1 _ rfl
   have p2:=hcc 2 _ rfl
   clear hcc
   go_upto_block 3 with fail
   generalize wy.alloc (.cells #[.int .i64 p.root,.int .i64 p.beg,.int .i64 p.width] 88)=w2 at x2 p0 p1 p2 ⊢
   have hpl:wy.heap.size<w2.heap.size:=World.block_lt_of_cell? w2 _ p0
   obtain ⟨bp,hbp⟩:∃ b,b=wy.heap.size:=⟨_,rfl⟩
   rw [← hbp] at p0 p1 p2 hpl ⊢
   have HBP:=qh hbp
   have r0:=xc x2 r0
   have r1':=xc x2 r1'
   have r2':=xc x2 r2'
   have r3':=xc x2 r3'
   have gb:=x2.block GY.out
   have g0:=blk_cell gb 0 _ rfl
   have g1:=blk_cell gb 1 _ rfl
   have g2:=blk_cell gb 2 _ rfl
   have gf2:=blk_free gb 2
   have lb:=(Array.getElem?_eq_some_iff.1 gb).1
   have GB:=qh gb
   have X2:=qh (X12.out.trans x2)
   have hDp:PlsIn w2 w0.heap.size (.slice aD D.length cD) D:=PlsIn.ext (PlsIn.of_owns HA.out.done rfl) (Nat.le_refl _) X2.out
   have HDP:=qh hDp
   have hwr2:w0.heap.size≤w2.heap.size:=X2.out.size
   clear hbp gb x2 hDp xy
   go_wp2_with fail
   go_loopw [17] (fun t w3=>∃ m:Nat,m≤D.length∧t=.int .i64 m∧Hid (Ext w2 w3∧∀ i q,i<m→D[i]?=some q→lapS q p=false)) (fun t _=>D.length - (intOf t).toNat)
   case atStart=>exact ⟨0,by omega,rfl,qh ⟨Ext.refl _,fun i q h=>by omega⟩⟩
   case round =>
    obtain ⟨m,hm,rfl,hin⟩:=hrel
    have p0:=xc hin.out.1 p0
    have p1:=xc hin.out.1 p1
    have p2:=xc hin.out.1 p2
    by_cases hlm:m<D.length
    ·have hmz:(m:Int)<(D.length:Int):=by omega
     obtain ⟨q',hq'⟩:∃ x,D[m]?=some x:=⟨_,lE hlm⟩
     have hqt:=HA.out.tight q' (List.mem_of_getElem? hq')
     obtain ⟨b2,off2,cap3,e,_,_,hb2,s0,s1,s2⟩:=PlsIn.at (PlsIn.ext HDP.out hwr2 hin.out.1) hq'
     cases e
     have HQ':=qh hq'
     have HIN:=qh hin.out
     have hcall:=qh (fun (w:World)=>lapR_any q' p w hqt HPT.out)
     clear hq' hqt hin
     cases hlap:lapS q' p with
     | true =>
      rw [hlap] at hcall
      have hany:D.any (lapS p)=true:=by
       rw [List.any_eq_true]
       exact ⟨q',List.mem_of_getElem? HQ'.out,by rw [lap_comm HPT.out (HA.out.tight q' (List.mem_of_getElem? HQ'.out))];exact hlap⟩
      have hres:res=.error 7:=by
       have:=HSTEP.out
       rw [HONE.out,if_pos hany] at this
       exact this.symm
      have HRES:=qh hres
      clear hany hres hlap
      go_upto_region 22 with (fail)
      rename_i K1 hK1
      have hK1:=qh hK1
      refine wp_region_M (fun w'=>Ext wr w') 5 (by kernel_rfl) (Ext.drew _) (fun hS=>?_)
      refine' tk 0 hS ?_ ?_;rotate_left;·intros;go_simp;try rfl
      refine' tk 1 hS ?_ ?_;rotate_left;·intros;go_simp;try rfl
      refine' tk 2 hS ?_ ?_;rotate_left;·intros;go_simp;try rfl
      try simp only [tD]
      refine' tk 3 hS ?_ ?_;rotate_left;·intro w hSw;have a0:=xc hSw s0;have a1:=xc hSw s1;have a2:=xc hSw s2;go_simp;try rfl
      refine' tk 4 hS ?_ ?_;rotate_left;·intro w hSw;have b0:=xc hSw p0;have b1:=xc hSw p1;have b2:=xc hSw p2;go_simp;try rfl
      try simp only [tD]
      generalize wr.drew=w4 at hS ⊢
      refine rl 5 fun K hK=>?_
      go_simp
      refine ((hcall.out w4)).mono ?_
      rintro e w5 ⟨rfl,x5⟩
      have hS0:=hS
      have hS:=Ext.trans hS x5
      refine hK.out _ _ ?_
      try simp only [tD]
      clear hK K
      refine' tw 6 ?_ ?_;rotate_left;·intros;go_simp;try rfl
      try simp only [tD]
      refine wpAnyM_done (by kernel_rfl) ?_ _
      refine hK1.out _ _ ?_
      have XF:=qh (HIN.out.1.trans hS)
      have gb5:=XF.out.block GB.out
      have g2:=blk_cell gb5 2 _ rfl
      have gf2:=blk_free gb5 2
      have lb:=(Array.getElem?_eq_some_iff.1 gb5).1
      have GS:=qh (heap_set_cells gb5 2 (.int .i64 7))
      have KW:Hid (Keep (GFoot bg vN vP) W (w5.setCell ⟨bg,2,none⟩ (.int .i64 7))):=qh ((HA.out.keep.trans (Keep.of_ext (X2.out.trans XF.out):Keep (GFoot bg vN vP) w0 w5) (fun _ _ h=>h)).trans (Keep.setCell (GFoot bg vN vP) w5 ⟨bg,2,none⟩ (.int .i64 7) (Or.inl rfl)) (fun _ _ h=>h))
      clear gb5 hS hS0 hcall
      go_wp2_with fail
      refine bodyPost_ret (results_none rfl _ _ _) rfl ?_
      rw [HRES.out]
      exact ⟨rfl,KW.out,_,_,GS.out⟩
     | false =>
      rw [hlap] at hcall
      have hst:∀ i q,i<m+1→D[i]?=some q→lapS q p=false:=fun i q hi hq=>by
       by_cases e:i=m
       ·subst e;rw [HQ'.out] at hq;cases hq;exact hlap
       ·exact HIN.out.2 i q (by omega) hq
      have HST:=qh hst
      clear hst hlap
      go_upto_region 22 with (fail)
      rename_i K1 hK1
      have hK1:=qh hK1
      refine wp_region_M (fun w'=>Ext wr w') 5 (by kernel_rfl) (Ext.drew _) (fun hS=>?_)
      refine' tk 0 hS ?_ ?_;rotate_left;·intros;go_simp;try rfl
      refine' tk 1 hS ?_ ?_;rotate_left;·intros;go_simp;try rfl
      refine' tk 2 hS ?_ ?_;rotate_left;·intros;go_simp;try rfl
      try simp only [tD]
      refine' tk 3 hS ?_ ?_;rotate_left;·intro w hSw;have a0:=xc hSw s0;have a1:=xc hSw s1;have a2:=xc hSw s2;go_simp;try rfl
      refine' tk 4 hS ?_ ?_;rotate_left;·intro w hSw;have b0:=xc hSw p0;have b1:=xc hSw p1;have b2:=xc hSw p2;go_simp;try rfl
      try simp only [tD]
      generalize wr.drew=w4 at hS ⊢
      refine rl 5 fun K hK=>?_
      go_simp
      refine ((hcall.out w4)).mono ?_
      rintro e w5 ⟨rfl,x5⟩
      have hS0:=hS
      have hS:=Ext.trans hS x5
      refine hK.out _ _ ?_
      try simp only [tD]
      clear hK K
      refine' tw 6 ?_ ?_;rotate_left;·intros;go_simp;try rfl
      try simp only [tD]
      refine wpAnyM_done (by kernel_rfl) ?_ _
      refine hK1.out _ _ ?_
      have XF:=qh (HIN.out.1.trans hS)
      clear hS hS0 hcall
      go_wp2_with fail
      go_roundw
      case rel=>exact ⟨m+1,by omega,by go_num,qh ⟨XF.out,HST.out⟩⟩
      case measure=>simp [intOf];omega
    ·have hany:D.any (lapS p)=false:=by
      rw [List.any_eq_false]
      intro q' hq'
      obtain ⟨i,hi⟩:=List.getElem?_of_mem hq'
      have h1:=hin.out.2 i q' (by have:=(List.getElem?_eq_some_iff.1 hi).1;omega) hi
      rw [lap_comm HPT.out (HA.out.tight q' hq'),h1]
      simp
     have hone:=HONE.out
     rw [if_neg (by rw [hany];simp)] at hone
     have hstep:=HSTEP.out
     rw [hone] at hstep
     dsimp only at hstep
     have HSTEP2:=qh hstep
     have HONE2:=qh hone
     have X3:=qh hin.out.1
     have hmz:¬ (m:Int)<(D.length:Int):=by omega
     have r0:=xc X3.out r0
     have r1':=xc X3.out r1'
     have r2':=xc X3.out r2'
     have r3':=xc X3.out r3'
     have hdone:wr.ownsRow W.heap.size 88 3 (.slice aD D.length cD) D.length (plCells D):=owns_ext HA.out.done (X2.out.trans X3.out)
     have hnm3:wr.ownsRow n0 9 1 (.slice aN σ1.names.length cN) σ1.names.length (σ1.names.map Value.string):=owns_ext HA.out.geo.nm (X2.out.trans X3.out)
     have hpl3:=owns_ext HA.out.geo.pl (X2.out.trans X3.out)
     have HDONE:=qh hdone
     have HNM3:=qh hnm3
     have HPL3:=qh hpl3
     have GB3:=qh (X3.out.block GB.out)
     obtain ⟨iP,hiP,zP0,zP1,zP2⟩:=info_parts infoPl
     have hbw3:W.heap.size≤wr.heap.size:=Nat.le_trans HA.out.keep.size (Nat.le_trans X2.out.size X3.out.size)
     clear hany hone hstep hdone hnm3 hpl3 hin
     go_upto_region 26 with (at_builtin;(refine wpList_append_lies _ rfl _ _ 45 rfl W.heap.size 88 iP _ 3 24 Tryz.underlying45 hiP zP0 zP1 zP2 rfl (by omega) (.slice aD D.length cD) D.length (plCells D) rfl (HDONE.out.alloc _) ⟨wr.heap.size,0,none⟩ 1 1 p.cells rfl rfl (World.news_of_block (cs:=p.cells.toArray) (t:=88) (fr:=(0,0)) (heap_alloc_new wr _)) p.one (by omega) (by unfold maxLen;omega) (by omega) (by simp;omega) _ rfl ?_;intro gD cpD w6 hownD hgrowD hatD hltD))
     have hDk:∀ x,(Value.slice aD D.length cD).ownBlock=some x→W.heap.size≤x∧x<w0.heap.size:=fun x e=>HA.out.done.lt x e
     have KD:Keep (fun x=>(Value.slice aD D.length cD).ownBlock=some x) wr w6:=(Keep.of_ext (Ext.alloc wr _):Keep (fun x=>(Value.slice aD D.length cD).ownBlock=some x) wr _).trans (Keep.grown hgrowD (fun x e=>e)) (fun _ _ h=>h)
     have hbr0:=HBR.out
     have hbp0:=HBP.out
     have hw02:w0.heap.size≤wy.heap.size:=X12.out.size
     have nbr:¬ (Value.slice aD D.length cD).ownBlock=some br:=fun e=>by have:=hDk _ e;omega
     have nbp:¬ (Value.slice aD D.length cD).ownBlock=some bp:=fun e=>by have:=hDk _ e;omega
     have nbg:¬ (Value.slice aD D.length cD).ownBlock=some bg:=fun e=>by have:=hDk _ e;omega
     have r0:=KD.cell r0 nbr
     have r1':=KD.cell r1' nbr
     have r2':=KD.cell r2' nbr
     have r3':=KD.cell r3' nbr
     have p0:=KD.cell p0 nbp
     have p1:=KD.cell p1 nbp
     have p2:=KD.cell p2 nbp
     have gb6:=(KD.block bg (World.block_lt_of_cell? wr _ (blk_cell GB3.out 0 _ rfl)) nbg).trans GB3.out
     have g0:=blk_cell gb6 0 _ rfl
     have hnm6:w6.ownsRow n0 9 1 (.slice aN σ1.names.length cN) σ1.names.length (σ1.names.map Value.string):=owns_same HNM3.out (fun x e=>KD.block x (HNM3.out.lt x e).2 (fun e2=>owns_types HNM3.out HDONE.out (by decide) e e2))
     have hpl6:=owns_same (w':=w6) HPL3.out (fun x e=>KD.block x (HPL3.out.lt x e).2 (fun e2=>HA.out.apart x e2 e))
     have GB6:=qh gb6
     have HNM6:=qh hnm6
     have HPL6:=qh hpl6
     have HD6:=qh hownD
     have HDA:=qh hatD
     have hw36:wr.heap.size≤w6.heap.size:=KD.size
     have KD6:=qh KD
     obtain ⟨iS,hiS,zS0,zS1,zS2⟩:=info_parts infoStr
     clear hgrowD hownD hatD KD gb6 hnm6 hpl6 hbr0 hbp0
     rename_i K1 hK1
     have hK1:=qh hK1
     refine wp_region_M (fun w'=>Ext w6 w') 8 (by kernel_rfl) (Ext.drew _) (fun hS=>?_)
     refine' tw 0 ?_ ?_;rotate_left;·intros;go_simp;try rfl
     refine' tk 1 hS ?_ ?_;rotate_left;·intros;go_simp;try rfl
     refine' tk 2 hS ?_ ?_;rotate_left;·intros;go_simp;try rfl
     try simp only [tD]
     refine' tk 3 hS ?_ ?_;rotate_left;·intros;go_simp;try rfl
     refine' tk 4 hS ?_ ?_;rotate_left;·intro w hSw;have a0:=xc hSw g0;go_simp;try rfl
     refine' tk 5 hS ?_ ?_;rotate_left;·intros;go_simp;try rfl
     try simp only [tD]
     refine' tk 6 hS ?_ ?_;rotate_left;·intro w hSw;have a1:=xc hSw r0;go_simp;try rfl
     try simp only [tD]
     generalize w6.drew=w7 at hS ⊢
     refine rc 7 fun K hK=>?_
     go_simp
     have x7:Ext w6 (w7.alloc (.cells #[.string r.name] 9)):=hS.trans (Ext.alloc _ _)
     refine hK.out _ _ x7 ?_
     try simp only [tD]
     clear hK K
     refine rl 8 fun K hK=>?_
     refine wp_append_lies _ _ _ _ rfl n0 9 iS _ 1 16 Tryz.underlying25 hiS zS0 zS1 zS2 rfl (by omega) (.slice aN σ1.names.length cN) σ1.names.length (σ1.names.map Value.string) rfl (owns_ext HNM6.out x7) ⟨w7.heap.size,0,none⟩ 1 1 [.string r.name] rfl rfl (World.news_of_block (cs:=#[.string r.name]) (t:=9) (fr:=(0,0)) (heap_alloc_new w7 _)) (by simp [Value.oneCell']) (by omega) (by unfold maxLen;omega) (by omega) (by have:=x7.size;omega) _ rfl ?_
     intro gN cpN w8 hownN hgrowN hatN hltN
     have hNk:∀ x,(Value.slice aN σ1.names.length cN).ownBlock=some x→n0≤x∧x<w6.heap.size:=fun x e=>HNM6.out.lt x e
     have KN:Keep (fun x=>(Value.slice aN σ1.names.length cN).ownBlock=some x) w6 w8:=(Keep.of_ext x7:Keep (fun x=>(Value.slice aN σ1.names.length cN).ownBlock=some x) w6 _).trans (Keep.grown hgrowN (fun x e=>e)) (fun _ _ h=>h)
     have bgc:=GB6.out
     have gb8:=(KN.block bg (World.block_lt_of_cell? w6 _ (blk_cell bgc 0 _ rfl)) (owns_ne HNM6.out bgc (by decide))).trans bgc
     have g0:=blk_cell gb8 0 _ rfl
     have gf0:=blk_free gb8 0
     have lb:=(Array.getElem?_eq_some_iff.1 gb8).1
     have HNW:=qh hownN
     have HNA:=qh hatN
     have KN8:=qh KN
     have GB8:=qh gb8
     have X7:=qh x7
     clear hownN hgrowN hatN KN gb8 bgc x7
     refine hK.out _ _ ?_
     try simp only [tD]
     clear hK K
     refine' tw 9 ?_ ?_;rotate_left;·intros;go_simp;try rfl
     try simp only [tD]
     refine' tw 10 ?_ ?_;rotate_left;·intros;go_simp;try rfl
     try simp only [tD]
     refine rl 11 fun K hK=>?_
     go_simp
     refine hK.out _ _ ?_
     try simp only [tD]
     clear hK K
     refine wpAnyM_done (by kernel_rfl) ?_ _
     refine hK1.out _ _ ?_
     have hle0:bg<w0.heap.size:=(Array.getElem?_eq_some_iff.1 HA.out.geo.blk).1
     have hbr0:=HBR.out
     have hbp0:=HBP.out
     have hN0:∀ x,(Value.slice aN σ1.names.length cN).ownBlock=some x→x<w0.heap.size:=fun x e=>(HA.out.geo.nm.lt x e).2
     have hP0:∀ x,vP1.ownBlock=some x→x<w0.heap.size:=fun x e=>(HA.out.geo.pl.lt x e).2
     have KN9:Keep (fun x=>x=bg∨(Value.slice aN σ1.names.length cN).ownBlock=some x) w6 (w8.setCell ⟨bg,0,none⟩ (.slice (some ⟨gN,0,none⟩) (σ1.names.length+1) cpN)):=(KN8.out.mono (fun x e=>Or.inr e)).trans (Keep.setCell (fun x=>x=bg∨(Value.slice aN σ1.names.length cN).ownBlock=some x) w8 ⟨bg,0,none⟩ _ (Or.inl rfl)) (fun _ _ h=>h)
     have nbr:¬ (br=bg∨(Value.slice aN σ1.names.length cN).ownBlock=some br):=fun h=>by
      rcases h with h | h
      ·omega
      ·have:=hN0 _ h;omega
     have nbp:¬ (bp=bg∨(Value.slice aN σ1.names.length cN).ownBlock=some bp):=fun h=>by
      rcases h with h | h
      ·omega
      ·have:=hN0 _ h;omega
     have r1':=KN9.cell r1' nbr
     have r3':=KN9.cell r3' nbr
     have p0:=KN9.cell p0 nbp
     have p1:=KN9.cell p1 nbp
     have p2:=KN9.cell p2 nbp
     have gb9:=heap_set_cells GB8.out 0 (.slice (some ⟨gN,0,none⟩) (σ1.names.length+1) cpN)
     have HNM9:=qh (ownsRow_setCell_other HNW.out (a:=⟨bg,0,none⟩) (owns_ne HNW.out GB8.out (by decide)) (.slice (some ⟨gN,0,none⟩) (σ1.names.length+1) cpN))
     have HPL9:=qh (owns_same (w':=w8.setCell ⟨bg,0,none⟩ (.slice (some ⟨gN,0,none⟩) (σ1.names.length+1) cpN)) HPL6.out (fun x e=>KN9.block x (HPL6.out.lt x e).2 (fun h=>by
      rcases h with h | h
      ·exact owns_ne HPL6.out GB6.out (by decide) (by rw [e,h])
      ·exact owns_types HPL6.out HNM6.out (by decide) e h)))
     have HD9:=qh (owns_same (w':=w8.setCell ⟨bg,0,none⟩ (.slice (some ⟨gN,0,none⟩) (σ1.names.length+1) cpN)) HD6.out (fun x e=>KN9.block x (HD6.out.lt x e).2 (fun h=>by
      rcases h with h | h
      ·exact owns_ne HD6.out GB6.out (by decide) (by rw [e,h])
      ·exact owns_types HD6.out HNM6.out (by decide) e h)))
     have K9:=qh KN9
     have GB9:=qh gb9
     have hw69:=KN9.size
     clear KN9 nbr nbp gb9 hbr0 hbp0 hS
     generalize w8.setCell ⟨bg,0,none⟩ (.slice (some ⟨gN,0,none⟩) (σ1.names.length+1) cpN)=w9 at r1' r3' p0 p1 p2 HNM9 HPL9 HD9 K9 GB9 hw69 ⊢
     go_upto_region 27 with (fail)
     have g1:=blk_cell (l:=[.slice (some ⟨gN,0,none⟩) (σ1.names.length+1) cpN,vP1,.int .i64 0]) GB9.out 1 _ rfl
     rename_i K1 hK1
     have hK1:=qh hK1
     refine wp_region_M (fun w'=>Ext w9 w') 7 (by kernel_rfl) (Ext.drew _) (fun hS=>?_)
     refine' tw 0 ?_ ?_;rotate_left;·intros;go_simp;try rfl
     refine' tk 1 hS ?_ ?_;rotate_left;·intros;go_simp;try rfl
     refine' tk 2 hS ?_ ?_;rotate_left;·intros;go_simp;try rfl
     try simp only [tD]
     refine' tk 3 hS ?_ ?_;rotate_left;·intros;go_simp;try rfl
     refine' tk 4 hS ?_ ?_;rotate_left;·intro w hSw;have a0:=xc hSw g1;go_simp;try rfl
     refine' tk 5 hS ?_ ?_;rotate_left;·intro w hSw;have b0:=xc hSw p0;have b1:=xc hSw p1;have b2:=xc hSw p2;go_simp;try rfl
     try simp only [tD]
     generalize w9.drew=w10 at hS ⊢
     refine rc 6 fun K hK=>?_
     go_simp
     have x10:Ext w9 (w10.alloc (.cells #[.int .i64 p.root,.int .i64 p.beg,.int .i64 p.width] 88)):=hS.trans (Ext.alloc _ _)
     refine hK.out _ _ x10 ?_
     try simp only [tD]
     clear hK K
     refine rl 7 fun K hK=>?_
     refine wp_append_lies _ _ _ _ rfl n0 88 iP _ 3 24 Tryz.underlying45 hiP zP0 zP1 zP2 rfl (by omega) vP1 σ1.places.length (plCells σ1.places) rfl (owns_ext HPL9.out x10) ⟨w10.heap.size,0,none⟩ 1 1 p.cells rfl rfl (World.news_of_block (cs:=p.cells.toArray) (t:=88) (fr:=(0,0)) (heap_alloc_new w10 _)) p.one (by omega) (by have:=HA.out.lenN.2;unfold maxLen;omega) (by have:=HA.out.lenN.2;omega) (by have:=x10.size;omega) _ rfl ?_
     intro gP cpP w11 hownP hgrowP hatP hltP
     have KP:Keep (fun x=>vP1.ownBlock=some x) w9 w11:=(Keep.of_ext x10:Keep (fun x=>vP1.ownBlock=some x) w9 _).trans (Keep.grown hgrowP (fun x e=>e)) (fun _ _ h=>h)
     have bgc:=GB9.out
     have gb11:=(KP.block bg (Array.getElem?_eq_some_iff.1 bgc).1 (owns_ne HPL9.out bgc (by decide))).trans bgc
     have g1:=blk_cell (l:=[.slice (some ⟨gN,0,none⟩) (σ1.names.length+1) cpN,vP1,.int .i64 0]) gb11 1 _ rfl
     have gf1:=blk_free (l:=[.slice (some ⟨gN,0,none⟩) (σ1.names.length+1) cpN,vP1,.int .i64 0]) gb11 1
     have lb:=(Array.getElem?_eq_some_iff.1 gb11).1
     have HPW:=qh hownP
     have HPA:=qh hatP
     have KP11:=qh KP
     have GB11:=qh gb11
     have X10:=qh x10
     clear hownP hgrowP hatP KP gb11 bgc x10
     refine hK.out _ _ ?_
     try simp only [tD]
     clear hK K
     refine' tw 8 ?_ ?_;rotate_left;·intros;go_simp;try rfl
     try simp only [tD]
     refine' tw 9 ?_ ?_;rotate_left;·intros;go_simp;try rfl
     try simp only [tD]
     refine rl 10 fun K hK=>?_
     go_simp
     refine hK.out _ _ ?_
     try simp only [tD]
     clear hK K
     refine wpAnyM_done (by kernel_rfl) ?_ _
     refine hK1.out _ _ ?_
     have hbr0:=HBR.out
     have hbp0:=HBP.out
     have KP12:Keep (fun x=>x=bg∨vP1.ownBlock=some x) w9 (w11.setCell ⟨bg,1,none⟩ (.slice (some ⟨gP,0,none⟩) (σ1.places.length+1) cpP)):=(KP11.out.mono (fun x e=>Or.inr e)).trans (Keep.setCell (fun x=>x=bg∨vP1.ownBlock=some x) w11 ⟨bg,1,none⟩ _ (Or.inl rfl)) (fun _ _ h=>h)
     have nbr:¬ (br=bg∨vP1.ownBlock=some br):=fun h=>by
      rcases h with h | h
      ·omega
      ·have:=hP0 _ h;omega
     have nbp:¬ (bp=bg∨vP1.ownBlock=some bp):=fun h=>by
      rcases h with h | h
      ·omega
      ·have:=hP0 _ h;omega
     have r1':=KP12.cell r1' nbr
     have r3':=KP12.cell r3' nbr
     have p1:=KP12.cell p1 nbp
     have gb12:=heap_set_cells (cs:=#[.slice (some ⟨gN,0,none⟩) (σ1.names.length+1) cpN,vP1,.int .i64 0]) GB11.out 1 (.slice (some ⟨gP,0,none⟩) (σ1.places.length+1) cpP)
     have HNM12:=qh (owns_same (w':=w11.setCell ⟨bg,1,none⟩ (.slice (some ⟨gP,0,none⟩) (σ1.places.length+1) cpP)) HNM9.out (fun x e=>KP12.block x (HNM9.out.lt x e).2 (fun h=>by
      rcases h with h | h
      ·exact owns_ne HNM9.out GB9.out (by decide) (by rw [e,h])
      ·exact owns_types HNM9.out HPL9.out (by decide) e h)))
     have HPL12:=qh (ownsRow_setCell_other HPW.out (a:=⟨bg,1,none⟩) (owns_ne HPW.out GB11.out (by decide)) (.slice (some ⟨gP,0,none⟩) (σ1.places.length+1) cpP))
     have hgD:gD<w6.heap.size:=(HD6.out.lt gD rfl).2
     have hgDP:∀ x,vP1.ownBlock=some x→x≠gD:=fun x e he=>by
      subst he
      rcases HDA.out with h | h
      ·exact HA.out.apart _ h e
      ·have h2:=hP0 _ e
       rw [h] at h2
       simp at h2
       have:=X2.out.size
       have:=X3.out.size
       omega
     have HD12:=qh (owns_same (w':=w11.setCell ⟨bg,1,none⟩ (.slice (some ⟨gP,0,none⟩) (σ1.places.length+1) cpP)) HD9.out (fun x e=>KP12.block x (HD9.out.lt x e).2 (fun h=>by
      rcases h with h | h
      ·exact owns_ne HD9.out GB9.out (by decide) (by rw [e,h])
      ·cases e;exact hgDP _ h rfl)))
     have KALL:Keep (fun x=>x=bg∨(Value.slice aN σ1.names.length cN).ownBlock=some x∨vP1.ownBlock=some x∨W.heap.size≤x) w0 (w11.setCell ⟨bg,1,none⟩ (.slice (some ⟨gP,0,none⟩) (σ1.places.length+1) cpP)) :=
      (((Keep.of_ext (X2.out.trans X3.out):Keep (fun x=>x=bg∨(Value.slice aN σ1.names.length cN).ownBlock=some x∨vP1.ownBlock=some x∨W.heap.size≤x) w0 wr).trans (KD6.out.mono (fun x e=>Or.inr (Or.inr (Or.inr (hDk x e).1)))) (fun _ _ h=>h)).trans (K9.out.mono (fun x e=>by
       rcases e with e | e
       ·exact Or.inl e
       ·exact Or.inr (Or.inl e))) (fun _ _ h=>h)).trans (KP12.mono (fun x e=>by
       rcases e with e | e
       ·exact Or.inl e
       ·exact Or.inr (Or.inr (Or.inl e)))) (fun _ _ h=>h)
     have KA:=qh KALL
     have GB12:=qh gb12
     have hw912:=KP12.size
     have hgP:gP<w11.heap.size:=(HPW.out.lt gP rfl).2
     have hgNlt:gN<w8.heap.size:=(HNW.out.lt gN rfl).2
     clear KP12 nbr nbp gb12 hbr0 hbp0 hS KALL
     generalize w11.setCell ⟨bg,1,none⟩ (.slice (some ⟨gP,0,none⟩) (σ1.places.length+1) cpP)=w12 at r1' r3' p1 HNM12 HPL12 HD12 KA GB12 hw912 ⊢
     have hsub:RegsIn w12 n0 (.slice ua r.subs.length uc) r.subs:=HS.out.same (fun x hx=>KA.out.block x (by omega) (fun h=>by
      rcases h with h | h | h | h
      ·omega
      ·have:=(HA.out.geo.nm.lt x h).1;omega
      ·have:=(HA.out.geo.pl.lt x h).1;omega
      ·omega))
     obtain ⟨σ2,hσ2⟩:∃ s,s=tookS σ1 r.name d p (if d=1 then σ1.roots+1 else σ1.roots):=⟨_,rfl⟩
     have hn2:σ2.names=σ1.names ++ [r.name]:=by rw [hσ2];rfl
     have hpl2:σ2.places=σ1.places ++ [p]:=by rw [hσ2];rfl
     obtain ⟨tw1,tw2,tw3,tw4⟩:=took_at (name:=r.name) (p:=p) (roots:=if d=1 then σ1.roots+1 else σ1.roots) hd1 HA.out.ways
     rw [← hσ2] at tw1 tw2 tw3 tw4
     have hone2:oneS σ1 r.name r.width r.beg d=.ok σ2:=by rw [HONE2.out,hσ2]
     have hstep2:=HSTEP2.out
     rw [← hσ2] at hstep2
     have hgeo2:GeoIn w12 n0 bg (.slice (some ⟨gN,0,none⟩) (σ1.names.length+1) cpN) (.slice (some ⟨gP,0,none⟩) (σ1.places.length+1) cpP) 0 σ2.names σ2.places:=by
      refine ⟨GB12.out,?_,?_,hbl⟩
      ·rw [hn2,List.length_append,List.map_append];exact HNM12.out
      ·rw [hpl2,List.length_append,plCells_snoc];exact HPL12.out
     have hcall:=qh (HIH.out (d+1) r.subs (.slice ua r.subs.length uc) σ2 w12 p.root p.beg p.width bg n0 _ _ p (by omega) (by omega) (by omega) hsub hgeo2 tw3 (fun _=>⟨rfl,HPT.out⟩) (fun h=>by omega) (oneS_few HA.out.few hone2) (by rw [hpl2,hn2,List.length_append,List.length_append,HA.out.lenN.2];rfl))
     have hfn2:∀ x,(Value.slice (some ⟨gN,0,none⟩) (σ1.names.length+1) cpN).ownBlock=some x→(Value.slice aN σ1.names.length cN).ownBlock=some x∨w0.heap.size≤x:=fun x e=>by
      cases e
      rcases HNA.out with h | h
      ·exact Or.inl h
      ·right
       show w0.heap.size≤gN
       rw [h]
       have a1:=X2.out.size
       have a2:=X3.out.size
       have a3:=X7.out.size
       omega
     have hfp2:∀ x,(Value.slice (some ⟨gP,0,none⟩) (σ1.places.length+1) cpP).ownBlock=some x→vP1.ownBlock=some x∨w6.heap.size≤x:=fun x e=>by
      cases e
      rcases HPA.out with h | h
      ·exact Or.inl h
      ·right
       show w6.heap.size≤gP
       rw [h]
       have a3:=X10.out.size
       omega
     have hw06:w0.heap.size≤w6.heap.size:=by
      have a1:=X2.out.size
      have a2:=X3.out.size
      omega
     have HF:=qh (And.intro hfn2 (And.intro hfp2 (And.intro hstep2 (And.intro tw2 (And.intro tw4 (And.intro tw1 hone2))))))
     have HG2:=qh hgeo2
     have hz:IntKind.i64.wrap ((d:Int)+1)=((d+1:Nat):Int):=by rw [IntWalk.i64_in _ (by omega)];rfl
     have hWw:W.heap.size≤w0.heap.size:=HA.out.keep.size
     have HSN:=qh (And.intro hσ2 (And.intro hn2 hpl2))
     have hGD2:W.heap.size≤gD:=(HD12.out.lt gD rfl).1
     clear hfn2 hfp2 hstep2 tw1 tw2 tw3 tw4 hone2 hgeo2 hsub hσ2 hn2 hpl2
     have g2:=blk_cell (l:=[.slice (some ⟨gN,0,none⟩) (σ1.names.length+1) cpN,.slice (some ⟨gP,0,none⟩) (σ1.places.length+1) cpP,.int .i64 0]) GB12.out 2 _ rfl
     have FOOT:Hid (∀ i,i<W.heap.size→GFoot bg (.slice (some ⟨gN,0,none⟩) (σ1.names.length+1) cpN) (.slice (some ⟨gP,0,none⟩) (σ1.places.length+1) cpP) i→GFoot bg vN vP i):=qh (fun i hi h=>by
      rcases h with h | h | h
      ·exact Or.inl h
      ·rcases HF.out.1 i h with h2 | h2
       ·exact Or.inr (Or.inl ((HA.out.fn i h2).resolve_right (by omega)))
       ·omega
      ·rcases HF.out.2.1 i h with h2 | h2
       ·exact Or.inr (Or.inr ((HA.out.fp i h2).resolve_right (by omega)))
       ·omega)
     have KW12:Hid (Keep (GFoot bg vN vP) W w12):=qh (HA.out.keep.trans KA.out (fun i hi h=>by
      rcases h with h | h | h | h
      ·exact Or.inl h
      ·exact Or.inr (Or.inl ((HA.out.fn i h).resolve_right (by omega)))
      ·exact Or.inr (Or.inr ((HA.out.fp i h).resolve_right (by omega)))
      ·omega))
     cases hdn:downS k (d+1) r.subs σ2 with
     | error x =>
      rw [hdn] at hcall
      have hres:res=.error x:=by
       have:=HF.out.2.2.1
       rw [hdn] at this
       exact this.symm
      have HRES:=qh (And.intro hres (downS_ne0 _ _ _ _ _ hdn))
      clear hres hdn
      go_wp2_with (go_at_call 118;refine hcall.out.mono ?_;rintro e w13 ⟨rfl,k13,vN',vP',b13⟩;have K13:=qh k13;have B13:=qh b13;clear k13 b13)
      go_roundw
      case rel=>exact ⟨j+1,by omega,by go_num,σ1,vP1,vP1,some ⟨gD,0,none⟩,cpD,D ++ [p],p.root,f2,rfl,rfl,by simp,HF2.out,qh (Or.inr ⟨x,vN',vP',HRES.out.2,HRES.out.1,KW12.out.trans K13.out FOOT.out,B13.out⟩)⟩
      case measure=>simp [intOf];omega
     | ok σ3 =>
      rw [hdn] at hcall
      have HDN:=qh hdn
      clear hdn
      go_wp2_with (go_at_call 118;refine hcall.out.mono ?_;rintro e w13 ⟨rfl,k13,vN',vP',hge,hfn3,hfp3⟩;have K13:=qh k13;have G13:=qh (And.intro hge (And.intro hfn3 hfp3));clear k13 hge hfn3 hfp3)
      go_roundw
      case rel =>
       obtain ⟨hF1,hF2,hF3,hF4,hF5,hF6,hF7⟩:=HF.out
       have e1:(D ++ [p]).length=D.length+1:=by simp
       have hsame:=downS_same k (d+1) r.subs σ2 σ3 (by omega) (by omega) HDN.out
       have hnames:=downS_names HDN.out
       have hgDN:¬ GFoot bg (.slice (some ⟨gN,0,none⟩) (σ1.names.length+1) cpN) (.slice (some ⟨gP,0,none⟩) (σ1.places.length+1) cpP) gD:=fun h=>by
        rcases h with h | h | h
        ·exact owns_ne HD12.out GB12.out (by decide) (by rw [← h];rfl)
        ·exact owns_types HD12.out HNM12.out (by decide) (k:=gD) rfl h
        ·rcases hF2 gD h with h2 | h2
         ·exact hgDP gD h2 rfl
         ·omega
       refine ⟨j+1,by omega,by go_num,σ3,vN',vP',some ⟨gD,0,none⟩,cpD,D ++ [p],p.root,f2,rfl,rfl,by simp,HF2.out,qh (Or.inl ⟨G13.out.1,KW12.out.trans K13.out FOOT.out,fun i e=>?_,fun i e=>?_,?_,?_,fun i e=>?_,?_,fun h1=>?_,downS_few k (d+1) r.subs σ2 σ3 (oneS_few HA.out.few hF7) HDN.out,fun q' hq'=>?_,?_⟩)⟩
       ·rcases G13.out.2.1 i e with h | h
        ·rcases hF1 i h with h2 | h2
         ·exact HA.out.fn i h2
         ·right;omega
        ·right;omega
       ·rcases G13.out.2.2 i e with h | h
        ·rcases hF2 i h with h2 | h2
         ·exact HA.out.fp i h2
         ·right;omega
        ·right;omega
       ·rw [hsame.2.1 (d - 1) (by omega)];exact hF4
       ·rw [e1,plCells_snoc]
        exact owns_same HD12.out (fun i e=>K13.out.block i (HD12.out.lt i e).2 (fun h=>by cases e;exact hgDN h))
       ·cases e
        intro e2
        rcases G13.out.2.2 _ e2 with h | h
        ·exact hgDN (Or.inr (Or.inr h))
        ·have h9:w12.heap.size≤gD:=h
         omega
       ·have:=hF3
        rw [HDN.out] at this
        exact this
       ·have h2:=hsame.2.2 (by omega)
        rw [h2,HSN.out.1]
        show (if d=1 then σ1.roots+1 else σ1.roots)=_
        rw [if_pos h1,HA.out.top h1]
        rfl
       ·rcases List.mem_append.1 hq' with h | h
        ·exact HA.out.tight q' h
        ·rw [List.mem_singleton] at h;subst h;exact HPT.out
       ·rw [e1]
        have h2:=HSN.out.2.1
        have h3:=HSN.out.2.2
        have h4:σ2.names.length=σ1.names.length+1:=by rw [h2];simp
        have h5:σ2.places.length=σ1.places.length+1:=by rw [h3];simp
        have h6:=HA.out.lenN
        exact ⟨by omega,hnames.2 (by omega)⟩
      case measure=>simp [intOf];omega
end Go.Proofs.YtligiddaampneaaGreat
