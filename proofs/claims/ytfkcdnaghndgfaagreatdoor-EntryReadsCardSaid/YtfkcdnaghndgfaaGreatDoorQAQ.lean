/- Package swingleref13: Split, Right. -/
import Derived.Test.YtfkcdnaghndgfaaGreatDoorQAP
import Derived.Test.YtfkcdnaghndgfaaGreatDoorQAO
import Derived.Deep.RegionHeld3
set_option linter.unusedVariables false
set_option linter.unusedSimpArgs false
set_option linter.unusedSectionVars false
namespace Go.Proofs.YtfkcdnaghndgfaaGreatDoor
open Go.RowKit
theorem zhu:(Tryz.prog.info? 9).map (fun i=>(i.zero,i.size,i.bytes))=some (some (.string .empty),1,16):=by kernel_rfl
def zf5 (l:List Nat):Value := .string (zd l)
theorem zbE (s:ByteArray) (cur:List Nat) (i:Nat) (h:i<s.size):zd cur++s.extract i (i+1)=zd (cur++[s[i].toNat]):=by
 rw [← xN]
 congr 1
 rw [← zz (s.extract i (i+1)),zK]
 congr 1
 rw [show i+1-i=1 by omega,List.drop_eq_getElem_cons (by rw [zc]; exact h),yC s i h]; rfl
set_option maxRecDepth 100000 in
set_option maxHeartbeats 4000000 in
theorem Kw (s:ByteArray) (w:World) (hs:s.size≤1100000):Calls Tryz.prog 90 #[.string s] w fun e w' =>
 ∃ g cap,e = .returned (.slice (some ⟨g,0,none⟩) (zi (za s)).length cap)∧w.heap.size≤g∧Row w' 9 1 (.slice (some ⟨g,0,none⟩) (zi (za s)).length cap) (zi (za s)).length ((zi (za s)).map zf5)∧Upd [] w w':=by
 obtain ⟨i0,hi,hz0,hz1,hz2⟩:=info_parts zhu
 go_enter Tryz.func90,Tryz.ntmps90
 go_wp2
 go_loopg [3,4,5] s.size (fun g v t c wr => ∃ (i:Nat) (done:List (List Nat)) (cur:List Nat),i≤s.size∧done.length≤i∧cur.length≤i∧t = .string (zd cur)∧c = .int .i64 (i:Nat)∧g=s.size-i∧Hid (zi (za s)=done++vK cur (zi ((za s).drop i)))∧Hid (Row wr 9 1 v done.length (done.map zf5))∧Hid (∀ b,v.ownBlock=some b→w.heap.size≤b)∧Hid (Upd [] w wr))
 case atStart=>exact ⟨0,[],[],Nat.zero_le _,Nat.zero_le _,Nat.zero_le _,rfl,rfl,rfl,Lib.hid (by rw [List.drop_zero,Vz]; rfl),Lib.hid (Row.nil _ _ _),Lib.hid (by simp [Value.ownBlock]),Lib.hid (Upd.refl _ _)⟩
 case round =>
  obtain ⟨i,done,cur,hi1,hd,hcu,rfl,rfl,rfl,HS,HR,HB,HU⟩:=hrel
  obtain ⟨va,vc,hv⟩:=HR.out.form
  subst hv
  by_cases hc:i<s.size
  · have hbl:s[i].toNat<256:=s[i].toNat_lt
    have HC:=Lib.hid (zbE s cur i hc)
    have hdr:(za s).drop i=s[i].toNat::(za s).drop (i+1):=by
     rw [List.drop_eq_getElem_cons (by rw [zc]; exact hc),yC s i hc]
    have HD:=Lib.hid hdr
    have hsz:(zd cur).size=cur.length:=zq cur
    clear hdr
    by_cases h47:s[i].toNat=47
    · have t1:((s[i].toNat:Int)==47)=true:=by rw [beq_iff_eq]; omega
      have HS2:Hid (zi (za s)=(done++[cur])++vK [] (zi ((za s).drop (i+1)))):=Lib.hid (by rw [HS.out,HD.out,h47,zat]; simp)
      clear h47 HS HC HD
      go_wp2_with (at_builtin; refine zC _ rfl _ _ 115 rfl 9 i0 _ 1 16 Tryz.underlying115 hi hz0 hz1 hz2 rfl (by omega) (.slice va done.length vc) done.length _ rfl (HR.out.alloc _) ⟨wr.heap.size,0,none⟩ 1 1 [_] rfl rfl (World.news_of_block (cs := #[_]) (t:=9) (fr:=(0,0)) (heap_alloc_new _ _)) (by simp [Value.oneCell']) (by unfold maxLen; omega) (by omega) ?_)
      rintro v9 w9 hR9 hU9 hT9
      obtain ⟨va9,vc9,rfl⟩:=hR9.form
      have hB9 : ∀ b,(Value.slice va9 (done.length+1) vc9).ownBlock=some b→w.heap.size≤b:=fun b hb=>by
       have:=HU.out.size
       rcases hT9 with e | ⟨g,e1,e2⟩
       · exact HB.out b (by rw [← e]; exact hb)
       · rw [hb] at e1; simp at e1 e2; omega
      have HF:Hid (Row w9 9 1 (.slice va9 (done.length+1) vc9) (done++[cur]).length ((done++[cur]).map zf5)∧(∀ b,(Value.slice va9 (done.length+1) vc9).ownBlock=some b→w.heap.size≤b)∧Upd [] w w9):=Lib.hid ⟨by
       rw [List.length_append,List.map_append]; exact hR9,hB9,(HU.out.then ((Upd.refl _ _).alloc _)).trans hU9 (fun k hk => .inr (HB.out k (by simpa using hk)))⟩
      clear hR9 hU9 hT9 hB9 HR HB HU
      go_wp2
      go_roundg (s.size-(i+1))
      all_goals first
       | omega
       | exact ⟨i+1,done++[cur],[],by omega,by simp; omega,by simp,rfl,by go_num,rfl,HS2,Lib.hid HF.out.1,Lib.hid HF.out.2.1,Lib.hid HF.out.2.2⟩
    · have t1:((s[i].toNat:Int)==47)=false:=by rw [beq_eq_false_iff_ne]; omega
      have HS2:Hid (zi (za s)=done++vK (cur++[s[i].toNat]) (zi ((za s).drop (i+1)))):=Lib.hid (by rw [HS.out,HD.out,zbe _ _ _ h47])
      clear h47 HS HD
      go_wp2
      go_roundg (s.size-(i+1))
      all_goals first
       | omega
       | exact ⟨i+1,done,cur++[s[i].toNat],by omega,by omega,by simp; omega,by rw [HC.out],by go_num,rfl,HS2,HR,HB,HU⟩
  · have hlen:=zc s
    have HS2:Hid (zi (za s)=done++[cur]):=Lib.hid (by rw [HS.out,List.drop_of_length_le (by omega)]; simp [zi,vK])
    clear HS hlen
    go_wp2_with (at_builtin; refine zC _ rfl _ _ 115 rfl 9 i0 _ 1 16 Tryz.underlying115 hi hz0 hz1 hz2 rfl (by omega) (.slice va done.length vc) done.length _ rfl (HR.out.alloc _) ⟨wr.heap.size,0,none⟩ 1 1 [_] rfl rfl (World.news_of_block (cs := #[_]) (t:=9) (fr:=(0,0)) (heap_alloc_new _ _)) (by simp [Value.oneCell']) (by unfold maxLen; omega) (by omega) ?_)
    rintro v9 w9 hR9 hU9 hT9
    obtain ⟨g,cap,rfl,hg1,hg2⟩:=hR9.form' (by omega)
    have hB9:w.heap.size≤g:=by
     have:=HU.out.size
     rcases hT9 with e | ⟨g',e1,e2⟩
     · exact HB.out g (by rw [← e]; rfl)
     · simp [Value.ownBlock] at e1 e2; omega
    have HF:=Lib.hid hR9
    have HUU:=Lib.hid ((HU.out.then ((Upd.refl _ _).alloc _)).trans hU9 (fun k hk => .inr (HB.out k (by simpa using hk))))
    clear hR9 hU9 hT9 HR HB HU
    go_wp2
    go_ret
    refine ⟨g,cap,?_,hB9,?_,HUU.out⟩
    · rw [HS2.out,List.length_append]; rfl
    · rw [HS2.out,List.length_append,List.map_append]; exact HF.out
theorem zfY (l:List Nat):((zi l).map zf5)[0]? =some (.string (zd ((zi l).headD []))):=by
 rw [jC l]; rfl
set_option maxRecDepth 100000 in
set_option maxHeartbeats 4000000 in
theorem VM (s:ByteArray) (w:World) (hs:s.size≤1100000):Calls Tryz.prog 53 #[.string s] w fun e w'=>e = .returned (.bool (yh (za s)))∧Upd [] w w':=by
 have HSP:=Lib.hid (Kw s w hs)
 have hhd : ∀ x∈(zi (za s)).headD [],x<256:=kw s _ (by
  rw [jC (za s)]; simp)
 have HQ:=Lib.hid (zgS _ hhd)
 have HLN:=Lib.hid (zc s)
 have HH:=Lib.hid (zfY (za s))
 have HLT:=Lib.hid (kw s)
 have hpl:=Xe (za s)
 rw [zc] at hpl
 have HPL:=Lib.hid (kj (za s))
 have hpos:0<(zi (za s)).length:=List.length_pos_iff.2 (VF _)
 clear hhd
 go_enter Tryz.func53,Tryz.ntmps53
 go_wp2_with fail
 refine HSP.out.mono ?_
 rintro e w1 ⟨g,cap,rfl,hg,hR,hU⟩
 have HR:=Lib.hid hR
 have HU:=Lib.hid hU
 clear hR hU HSP
 obtain ⟨P,hP⟩ : ∃ P,zi (za s)=P:=⟨_,rfl⟩
 have HP:=Lib.hid hP
 rw [hP] at HR HQ HLT HPL HH hpos hpl ⊢
 clear hP
 by_cases h200:200<s.size
 · have HE:=Lib.hid (Zn (l:=za s) (by rw [HLN.out]; exact h200))
   go_wp2
   go_ret
   exact ⟨by rw [HE.out]; rfl,HU.out⟩
 · by_cases h12:12<P.length
   · have HE:=Lib.hid (Zx (l:=za s) (by rw [HP.out]; exact h12))
     go_wp2
     go_ret
     exact ⟨by rw [HE.out]; rfl,HU.out⟩
   · have c0:=HR.out.cell 0 HH.out
     by_cases hres:P.headD []=JM
     · have HE:=Lib.hid (Xn (l:=za s) (by rw [HP.out]; exact hres))
       have t1:=HQ.out.trans (decide_eq_true hres)
       clear hres
       generalize P.headD []=hd at *
       go_wp2
       go_ret
       exact ⟨by rw [HE.out]; rfl,HU.out⟩
     · have t1:=HQ.out.trans (decide_eq_false hres)
       have HNE:Hid ((zi (za s)).headD []≠JM):=Lib.hid (by rw [HP.out]; exact hres)
       clear hres
       generalize P.headD []=hd at *
       go_wp2
       go_loopg [24] P.length (fun g' t wr => ∃ k:Nat,k≤P.length∧t = .int .i64 (k:Nat)∧g'=P.length-k∧Hid (∀ (i:Nat) p,i<k→P[i]? =some p→yd p=true)∧w1=wr)
       case atStart=>exact ⟨0,Nat.zero_le _,rfl,rfl,Lib.hid (fun i p h=>by omega),rfl⟩
       case round =>
        obtain ⟨k,hk,rfl,rfl,HA,rfl⟩:=hrel
        clear c0 t1
        by_cases hc:k<P.length
        · have hgk:(P.map zf5)[k]? =some (.string (zd P[k])):=by rw [List.getElem?_map,List.getElem?_eq_getElem hc]; rfl
          have ck:=HR.out.cell k hgk
          have hmem:P[k]∈P:=List.getElem_mem hc
          have hpz:(zd P[k]).size≤1100000:=by rw [zq]; have:=HPL.out _ hmem; have:=HLN.out; omega
          have HPT:=Lib.hid (fun w=>zd8 (zd P[k]) w hpz)
          rw [zE _ (HLT.out _ hmem)] at HPT
          have HM:Hid (P[k]∈zi (za s)):=Lib.hid (by rw [HP.out]; exact hmem)
          have HGK:Hid (P[k]? =some P[k]):=Lib.hid (List.getElem?_eq_getElem hc)
          clear hgk hmem hpz
          obtain ⟨p,hp⟩ : ∃ p,P[k]=p:=⟨_,rfl⟩
          rw [hp] at ck HPT HM HGK
          clear hp
          cases hpo:yd p with
          | true =>
            rw [hpo] at HPT
            have HA2:Hid (∀ (i:Nat) p,i<k+1→P[i]? =some p→yd p=true):=Lib.hid (fun i q h1 h2=>by
             by_cases e:i=k
             · subst e; rw [HGK.out] at h2; simp at h2; subst h2; exact hpo
             · exact HA.out i q (by omega) h2)
            clear hpo HA HM HGK
            go_wp2_with (go_at_call 91; refine (HPT.out _).mono ?_; rintro e w' ⟨rfl,rfl⟩)
            go_roundg (P.length-(k+1))
            all_goals first
             | omega
             | exact ⟨k+1,by omega,by go_num,rfl,HA2,rfl⟩
          | false =>
            rw [hpo] at HPT
            have HE:=Lib.hid (Yj HM.out hpo)
            clear hpo HA HM HGK
            go_wp2_with (go_at_call 91; refine (HPT.out _).mono ?_; rintro e w' ⟨rfl,rfl⟩)
            go_ret
            exact ⟨by rw [HE.out]; rfl,HU.out⟩
        · have HE:Hid (yh (za s)=true):=Lib.hid (XE (by rw [HLN.out]; omega) HNE.out (by rw [HP.out]; omega) (fun p hp=>by
           rw [HP.out] at hp
           obtain ⟨i,hi,e⟩:=List.getElem_of_mem hp
           exact HA.out i p (by omega) (by rw [List.getElem?_eq_getElem hi,e])))
          clear HA
          go_wp2
          go_ret
          exact ⟨by rw [HE.out]; rfl,HU.out⟩
end Go.Proofs.YtfkcdnaghndgfaaGreatDoor
namespace Go.Proofs.YtfkcdnaghndgfaaGreatDoor
open Go.RowKit
def qY (l:List Nat):Bool:=decide (l.drop (l.length-1)=[47])
theorem XV {l:List Nat} (h:qY l=true):1≤l.length:=by
 unfold qY at h
 have:=congrArg List.length (of_decide_eq_true h)
 rw [List.length_drop] at this; simp at this; omega
theorem zaN (s:ByteArray) (h:0<s.size):qY (za s)=decide (s[s.size-1].toNat=47):=by
 unfold qY
 rw [zc,List.drop_eq_getElem_cons (by rw [zc]; omega),yC s _ (by omega),List.drop_of_length_le (by rw [zc]; omega)]
 simp
theorem zgs (s:ByteArray) (h:s.size=0):qY (za s)=false:=by
 unfold qY
 have:za s=[]:=List.eq_nil_of_length_eq_zero (by rw [zc]; exact h)
 rw [this]; rfl
def zR (l:List Nat):List Nat×Nat×Bool :=
 if qY l=true then (if yh (l.take (l.length-1))=true then (l.take (l.length-1),2,true) else ([],0,false))
 else if yh l=true∨l=JM then (l,1,true) else ([],0,false)
def Xl (p:List Nat×Nat×Bool):Value := .tuple #[.string (zd p.1),.int .i64 (p.2.1:Nat),.bool p.2.2]
theorem zah {l:List Nat} (h : ∀ x∈l,x<256) : ∀ x∈(zR l).1,x<256:=by
 unfold zR
 repeat' split
 all_goals first
  | exact fun x hx=>h x (List.mem_of_mem_take hx)
  | exact h
  | (intro x hx; simp at hx)
set_option maxRecDepth 100000 in
theorem zbq (s:ByteArray) (w:World) (hs:s.size≤1000000):Calls Tryz.prog 167 #[.string s,.string { data := #[47] }] w fun e w'=>e = .returned (.bool (qY (za s)))∧w=w':=by
 by_cases h0:s.size=0
 · have HE:=Lib.hid (zgs s h0)
   go_enter Tryz.func167,Tryz.ntmps167
   go_wp2
   go_ret
   exact ⟨by rw [HE.out]; rfl,rfl⟩
 · have h1:1≤s.size:=by omega
   have HT:Hid (((s.extract (s.size-1) s.size).toList==[47])=qY (za s)):=Lib.hid (by
    rw [xO,kU]; unfold qY; rw [zc]; rfl)
   cases hb:qY (za s) with
   | true =>
     have t1:=HT.out.trans hb
     clear hb HT
     go_enter Tryz.func167,Tryz.ntmps167
     go_wp2
     go_ret
     exact ⟨rfl,rfl⟩
   | false =>
     have t1:=HT.out.trans hb
     clear hb HT
     go_enter Tryz.func167,Tryz.ntmps167
     go_wp2
     go_ret
     exact ⟨rfl,rfl⟩
def zbS (s:ByteArray):Value := .tuple #[.string (if qY (za s)=true then s.extract 0 (s.size-1) else s),.bool (qY (za s))]
theorem Wv {s:ByteArray} (h:qY (za s)=true):zbS s = .tuple #[.string (s.extract 0 (s.size-1)),.bool true]:=by unfold zbS; rw [h]; rfl
theorem zcT {s:ByteArray} (h:qY (za s)=false):zbS s = .tuple #[.string s,.bool false]:=by unfold zbS; rw [h]; rfl
theorem WW (s:ByteArray) (w:World) (hs:s.size≤1000000):Calls Tryz.prog 131 #[.string s,.string { data := #[47] }] w fun e w'=>e = .returned (zbS s)∧w=w':=by
 have HH:=Lib.hid (fun w=>zbq s w hs)
 cases hb:qY (za s) with
 | true =>
   have h1:1≤s.size:=by have:=XV hb; rw [zc] at this; exact this
   have HV:=Lib.hid (Wv hb)
   rw [hb] at HH
   clear hb
   go_enter Tryz.func131,Tryz.ntmps131
   go_wp2_with (go_at_call 167; refine (HH.out _).mono ?_; rintro e w' ⟨rfl,rfl⟩)
   go_ret2
   exact ⟨by rw [HV.out]; rfl,rfl⟩
 | false =>
   have HV:=Lib.hid (zcT hb)
   rw [hb] at HH
   clear hb
   go_enter Tryz.func131,Tryz.ntmps131
   go_wp2_with (go_at_call 167; refine (HH.out _).mono ?_; rintro e w' ⟨rfl,rfl⟩)
   go_ret2
   exact ⟨by rw [HV.out]; rfl,rfl⟩
theorem zbI (s:ByteArray) (w:World) (hs:s.size≤1000000):Calls Tryz.prog 83 #[.string s,.string { data := #[47] }] w fun e w'=>e = .returned (zbS s)∧w=w':=by
 have HH:=Lib.hid (fun w=>WW s w hs)
 have HV:Hid (zbS s = .tuple #[.string (if qY (za s)=true then s.extract 0 (s.size-1) else s),.bool (qY (za s))]):=Lib.hid rfl
 rw [HV.out] at HH
 generalize (if qY (za s)=true then s.extract 0 (s.size-1) else s)=r at *
 generalize qY (za s)=b at *
 go_enter Tryz.func83,Tryz.ntmps83
 go_wp2_with (go_at_call 131; refine (HH.out _).mono ?_; rintro e w' ⟨rfl,rfl⟩)
 go_ret2
 exact ⟨by rw [HV.out]; rfl,rfl⟩
theorem Vp {l:List Nat} (h:qY l=true) (hr:yh (l.take (l.length-1))=true):zR l=(l.take (l.length-1),2,true):=by unfold zR; rw [if_pos h,if_pos hr]
theorem Xc {l:List Nat} (h:qY l=true) (hr:yh (l.take (l.length-1))=false):zR l=([],0,false):=by unfold zR; rw [if_pos h,hr]; rfl
theorem kQ {l:List Nat} (h:qY l=false) (hr:yh l=true∨l=JM):zR l=(l,1,true):=by unfold zR; rw [h,if_neg (by simp),if_pos hr]
theorem Xw {l:List Nat} (h:qY l=false) (hr : ¬ (yh l=true∨l=JM)):zR l=([],0,false):=by unfold zR; rw [h,if_neg (by simp),if_neg hr]
theorem xZ {l a:List Nat} {k:Nat} {b:Bool} (h:zR l=(a,k,b)):Xl (zR l) = .tuple #[.string (zd a),.int .i64 (k:Nat),.bool b]:=by rw [h]; rfl
theorem zii (s:ByteArray):(s.toList==[46,115,119,105,110,103,108,101])=decide (za s=JM):=xO s _
set_option maxRecDepth 100000 in
set_option maxHeartbeats 4000000 in
theorem zaz (s:ByteArray) (w:World) (hs:s.size≤1000000):Calls Tryz.prog 44 #[.string s] w fun e w'=>e = .returned (Xl (zR (za s)))∧Upd [] w w':=by
 have HC:=Lib.hid (fun w=>zbI s w hs)
 have HR:=Lib.hid (fun w=>Jo s w (by omega))
 have HQ:=Lib.hid (zii s)
 cases hb:qY (za s) with
 | true =>
   have h1:1≤s.size:=by have:=XV hb; rw [zc] at this; exact this
   rw [Wv hb] at HC
   have HX:=Lib.hid (fun w=>Jo (s.extract 0 (s.size-1)) w (by rw [ByteArray.size_extract]; omega))
   have he:za (s.extract 0 (s.size-1))=(za s).take ((za s).length-1):=by rw [zK,List.drop_zero,zc]; rfl
   rw [he] at HX
   have HST:Hid (s.extract 0 (s.size-1)=zd ((za s).take ((za s).length-1))):=Lib.hid (by rw [jN,zc])
   clear he HR
   cases hr:yh ((za s).take ((za s).length-1)) with
   | true =>
     have HV:=Lib.hid (xZ (Vp hb hr))
     rw [hr] at HX
     clear hb hr
     go_enter Tryz.func44,Tryz.ntmps44
     go_wp2_with fail
     refine (HC.out _).mono ?_
     rintro e w1 ⟨rfl,rfl⟩
     go_wp2_with fail
     refine (HX.out _).mono ?_
     rintro e w2 ⟨rfl,hU⟩
     go_wp2
     go_ret3
     exact ⟨by rw [HV.out,← HST.out]; rfl,hU⟩
   | false =>
     have HV:=Lib.hid (xZ (Xc hb hr))
     rw [hr] at HX
     clear hb hr
     go_enter Tryz.func44,Tryz.ntmps44
     go_wp2_with fail
     refine (HC.out _).mono ?_
     rintro e w1 ⟨rfl,rfl⟩
     go_wp2_with fail
     refine (HX.out _).mono ?_
     rintro e w2 ⟨rfl,hU⟩
     go_wp2
     go_ret3
     exact ⟨by rw [HV.out]; rfl,hU⟩
 | false =>
   rw [zcT hb] at HC
   have HST:=Lib.hid (zz s)
   cases hr:yh (za s) with
   | true =>
     have HV:=Lib.hid (xZ (kQ hb (.inl hr)))
     rw [hr] at HR
     clear hb hr
     go_enter Tryz.func44,Tryz.ntmps44
     go_wp2_with fail
     refine (HC.out _).mono ?_
     rintro e w1 ⟨rfl,rfl⟩
     go_wp2_with fail
     refine (HR.out _).mono ?_
     rintro e w2 ⟨rfl,hU⟩
     go_wp2
     go_ret3
     exact ⟨by rw [HV.out,HST.out]; rfl,hU⟩
   | false =>
     by_cases hq:za s=JM
     · have t1:=HQ.out.trans (decide_eq_true hq)
       have HV:=Lib.hid (xZ (kQ hb (.inr hq)))
       rw [hr] at HR
       clear hb hr hq HQ
       go_enter Tryz.func44,Tryz.ntmps44
       go_wp2_with fail
       refine (HC.out _).mono ?_
       rintro e w1 ⟨rfl,rfl⟩
       go_wp2_with fail
       refine (HR.out _).mono ?_
       rintro e w2 ⟨rfl,hU⟩
       go_wp2_with (go_at_call 85; refine (jx _).mono ?_; rintro e w' ⟨rfl,rfl⟩)
       go_ret3
       exact ⟨by rw [HV.out,HST.out]; rfl,hU⟩
     · have t1:=HQ.out.trans (decide_eq_false hq)
       have HV:=Lib.hid (xZ (Xw hb (by rw [hr]; simp [hq])))
       rw [hr] at HR
       clear hb hr hq HQ
       go_enter Tryz.func44,Tryz.ntmps44
       go_wp2_with fail
       refine (HC.out _).mono ?_
       rintro e w1 ⟨rfl,rfl⟩
       go_wp2_with fail
       refine (HR.out _).mono ?_
       rintro e w2 ⟨rfl,hU⟩
       go_wp2_with (go_at_call 85; refine (jx _).mono ?_; rintro e w' ⟨rfl,rfl⟩)
       go_ret3
       exact ⟨by rw [HV.out]; rfl,hU⟩
set_option maxRecDepth 100000 in
set_option maxHeartbeats 4000000 in
theorem VB (s:ByteArray) (w:World) (hs:s.size≤1100000):Calls Tryz.prog 23 #[.string s] w fun e w'=>e = .returned (Xl (zR (za s)))∧Upd [] w w':=by
 have HR:=Lib.hid (fun w=>VM s w (by omega))
 have HQ:=Lib.hid (zii s)
 cases hb:qY (za s) with
 | true =>
   have h1:1≤s.size:=by have:=XV hb; rw [zc] at this; exact this
   have h47:s[s.size-1].toNat=47:=by rw [zaN s (by omega)] at hb; exact of_decide_eq_true hb
   have t47:((s[s.size-1].toNat:Int)==47)=true:=by rw [beq_iff_eq]; omega
   have HX:=Lib.hid (fun w=>VM (s.extract 0 (s.size-1)) w (by rw [ByteArray.size_extract]; omega))
   have he:za (s.extract 0 (s.size-1))=(za s).take ((za s).length-1):=by rw [zK,List.drop_zero,zc]; rfl
   rw [he] at HX
   have HST:Hid (s.extract 0 (s.size-1)=zd ((za s).take ((za s).length-1))):=Lib.hid (by rw [jN,zc])
   clear he HR h47
   cases hr:yh ((za s).take ((za s).length-1)) with
   | true =>
     have HV:=Lib.hid (xZ (Vp hb hr))
     rw [hr] at HX
     clear hb hr
     go_enter Tryz.func23,Tryz.ntmps23
     go_wp2_with fail
     refine (HX.out _).mono ?_
     rintro e w2 ⟨rfl,hU⟩
     go_wp2
     go_ret3
     exact ⟨by rw [HV.out,← HST.out]; rfl,hU⟩
   | false =>
     have HV:=Lib.hid (xZ (Xc hb hr))
     rw [hr] at HX
     clear hb hr
     go_enter Tryz.func23,Tryz.ntmps23
     go_wp2_with fail
     refine (HX.out _).mono ?_
     rintro e w2 ⟨rfl,hU⟩
     go_wp2
     go_ret3
     exact ⟨by rw [HV.out]; rfl,hU⟩
 | false =>
   have HST:=Lib.hid (zz s)
   have ways:s.size=0∨(1≤s.size∧Hid (∃ h:s.size-1<s.size,(((s[s.size-1]'h).toNat:Int)==47)=false)):=by
    by_cases h0:s.size=0
    · exact .inl h0
    · refine .inr ⟨by omega,Lib.hid ⟨by omega,?_⟩⟩
      rw [zaN s (by omega)] at hb
      have:=of_decide_eq_false hb
      rw [beq_eq_false_iff_ne]; omega
   cases hr:yh (za s) with
   | true =>
     have HV:=Lib.hid (xZ (kQ hb (.inl hr)))
     rw [hr] at HR
     clear hb hr
     rcases ways with h0 | ⟨h1,hw⟩
     · go_enter Tryz.func23,Tryz.ntmps23
       go_wp2_with fail
       refine (HR.out _).mono ?_
       rintro e w2 ⟨rfl,hU⟩
       go_wp2
       go_ret3
       exact ⟨by rw [HV.out,HST.out]; rfl,hU⟩
     · obtain ⟨hw1,t47⟩:=hw.out
       go_enter Tryz.func23,Tryz.ntmps23
       go_wp2_with fail
       refine (HR.out _).mono ?_
       rintro e w2 ⟨rfl,hU⟩
       go_wp2
       go_ret3
       exact ⟨by rw [HV.out,HST.out]; rfl,hU⟩
   | false =>
     by_cases hq:za s=JM
     · have t1:=HQ.out.trans (decide_eq_true hq)
       have HV:=Lib.hid (xZ (kQ hb (.inr hq)))
       rw [hr] at HR
       have hz:s.size=8:=by rw [← zc s,hq]; rfl
       have HZ:=Lib.hid hz
       have h1:1≤s.size:=by omega
       obtain ⟨hw1,t47⟩ : ∃ h:s.size-1<s.size,(((s[s.size-1]'h).toNat:Int)==47)=false:=by
        rcases ways with h0 | ⟨_,hw⟩
        · omega
        · exact hw.out
       clear hb hr hq HQ ways hz
       go_enter Tryz.func23,Tryz.ntmps23
       go_wp2_with fail
       refine (HR.out _).mono ?_
       rintro e w2 ⟨rfl,hU⟩
       go_wp2
       go_ret3
       exact ⟨by rw [HV.out,HST.out]; rfl,hU⟩
     · have t1:=HQ.out.trans (decide_eq_false hq)
       have HV:=Lib.hid (xZ (Xw hb (by rw [hr]; simp [hq])))
       rw [hr] at HR
       clear hb hr hq HQ
       rcases ways with h0 | ⟨h1,hw⟩
       · go_enter Tryz.func23,Tryz.ntmps23
         go_wp2_with fail
         refine (HR.out _).mono ?_
         rintro e w2 ⟨rfl,hU⟩
         go_wp2
         go_ret3
         exact ⟨by rw [HV.out]; rfl,hU⟩
       · obtain ⟨hw1,t47⟩:=hw.out
         go_enter Tryz.func23,Tryz.ntmps23
         go_wp2_with fail
         refine (HR.out _).mono ?_
         rintro e w2 ⟨rfl,hU⟩
         go_wp2
         go_ret3
         exact ⟨by rw [HV.out]; rfl,hU⟩
end Go.Proofs.YtfkcdnaghndgfaaGreatDoor
namespace Go.Proofs.YtfkcdnaghndgfaaGreatDoor
open Go.RowKit
set_option maxRecDepth 100000 in
set_option maxHeartbeats 1600000 in
theorem jD (t f k b:Nat) (w:World) (hb:w.cell? ⟨b,0,none⟩=some (.int .u32 (t:Nat))) (ht:t<4294967296) (hf:f≤25) (hk:k≤7) :
 Calls Tryz.prog 115 #[.int .i64 (f:Nat),.int .i64 (k:Nat),.pointer (some ⟨b,0,none⟩)] w fun e w'=>e = .returned (.int .i64 (t/2^f%2^k:Nat)) ∧ ∃ n,w'=w.drewN n:=by
 go_enter Tryz.func115,Tryz.ntmps115
 go_wp2
 go_quiet (fail)
 go_wp2
 go_returns
 exact ⟨by
  show Ending.returned (.int .i64 (wrap64 (bits BinOp.and IntKind.u32 ((t:Int)/2^f) ((2^k-1)%4294967296))))=_
  rw [zgU t f k ht hk,zbQ _ (Nat.lt_of_lt_of_le (Nat.mod_lt _ (Nat.two_pow_pos k)) (Nat.le_trans (Nat.pow_le_pow_right (by omega) hk) (by omega)))],_,rfl⟩
end Go.Proofs.YtfkcdnaghndgfaaGreatDoor
namespace Go.Proofs.YtfkcdnaghndgfaaGreatDoor
open Go.RowKit
def vH (t:Nat):List Value:=[.int .i64 (1980+(t:Int)/33554432%128),.int .i64 ((t:Int)/2097152%16),.int .i64 ((t:Int)/65536%32),.int .i64 ((t:Int)/2048%32),.int .i64 ((t:Int)/32%64),.int .i64 (2*((t:Int)%32))]
theorem ziG:(Tryz.prog.info? 111).map (·.size)=some 6:=by kernel_rfl
theorem ziE:(Tryz.prog.info? 89).map (·.size)=some 6:=by kernel_rfl
set_option maxRecDepth 100000 in
set_option maxHeartbeats 1600000 in
theorem zbU (t:Nat) (w:World) (ht:t<4294967296) :
 Calls Tryz.prog 72 #[.int .u32 (t:Nat)] w fun e w'=>e = .returned (.agg (vH t).toArray)∧Upd [] w w':=by
 go_enter Tryz.func72,Tryz.ntmps72
 go_upto_region 2 with fail
 have hT:=(Blk.new w [.int .u32 (t:Nat)] 22).alloc (Obj.cells #[.int .i64 0,.int .i64 0,.int .i64 0,.int .i64 0,.int .i64 0,.int .i64 0] 111)
 have hR:=Blk.new (w.alloc (Obj.cells #[.int .u32 (t:Nat)] 22)) [.int .i64 0,.int .i64 0,.int .i64 0,.int .i64 0,.int .i64 0,.int .i64 0] 111
 have hU:Upd [] w ((w.alloc (Obj.cells #[.int .u32 (t:Nat)] 22)).alloc (Obj.cells #[.int .i64 0,.int .i64 0,.int .i64 0,.int .i64 0,.int .i64 0,.int .i64 0] 111)):=((Upd.refl [] w).alloc _).alloc _
 rw [World.size_alloc] at hR
 change Code.wp _ _ _ _ ((w.alloc (Obj.cells #[.int .u32 (t:Nat)] 22)).alloc (Obj.cells #[.int .i64 0,.int .i64 0,.int .i64 0,.int .i64 0,.int .i64 0,.int .i64 0] 111))
 generalize (w.alloc (Obj.cells #[.int .u32 (t:Nat)] 22)).alloc (Obj.cells #[.int .i64 0,.int .i64 0,.int .i64 0,.int .i64 0,.int .i64 0,.int .i64 0] 111)=w2 at *
 have HC:=Lib.hid (hT.cell 0 rfl)
 have HR:=Lib.hid hR
 clear hT hR
 go_wp2_with fail
 refine (jD t 25 7 w.heap.size _ (by exact HC.out) ht (by omega) (by omega)).mono ?_
 rintro e w3 ⟨rfl,k0,rfl⟩
 go_wp2_with fail
 refine (jD t 21 4 w.heap.size _ (by exact HC.out) ht (by omega) (by omega)).mono ?_
 rintro e w3 ⟨rfl,k1,rfl⟩
 go_wp2_with fail
 refine (jD t 16 5 w.heap.size _ (by exact HC.out) ht (by omega) (by omega)).mono ?_
 rintro e w3 ⟨rfl,k2,rfl⟩
 go_wp2_with fail
 refine (jD t 11 5 w.heap.size _ (by exact HC.out) ht (by omega) (by omega)).mono ?_
 rintro e w3 ⟨rfl,k3,rfl⟩
 go_wp2_with fail
 refine (jD t 5 6 w.heap.size _ (by exact HC.out) ht (by omega) (by omega)).mono ?_
 rintro e w3 ⟨rfl,k4,rfl⟩
 go_wp2_with fail
 refine (jD t 0 5 w.heap.size _ (by exact HC.out) ht (by omega) (by omega)).mono ?_
 rintro e w3 ⟨rfl,k5,rfl⟩
 have rA:=HR.out.all
 have fA:=HR.out.frz
 go_wp2
 have hB:=(((((((HR.out.drewN (k0+k1+k2+k3+k4+k5)).set 0 (.int .i64 (1980+(t:Int)/33554432%128))).set 1 (.int .i64 ((t:Int)/2097152%16))).set 2 (.int .i64 ((t:Int)/65536%32))).set 3 (.int .i64 ((t:Int)/2048%32))).set 4 (.int .i64 ((t:Int)/32%64))).set 5 (.int .i64 (2*((t:Int)%32))))
 refine bodyPost_ret (v := .agg (vH t).toArray) (results_cell_row rfl _ _ (w.heap.size+1) 111 (vH t).toArray (0,0) _ (by simp) (hB) Tryz.underlying111 rfl (by rw [ziG]; rfl)) (by simp) ⟨rfl,?_⟩
 exact (((((((hU.drewN _).setCell (.inr (by simp)) _).setCell (.inr (by simp)) _).setCell (.inr (by simp)) _).setCell (.inr (by simp)) _).setCell (.inr (by simp)) _).setCell (.inr (by simp)) _)
theorem jv (a b:Int) (w:World):Calls Tryz.prog 116 #[.int .i64 a,.int .i64 b] w fun e w'=>e = .returned (.bool (decide (0≤a)&&decide (a<b)))∧w=w':=by
 by_cases h:0≤a
 · have t1:decide (0≤a)=true:=decide_eq_true h
   go_enter Tryz.func116,Tryz.ntmps116
   go_wp2
   go_returns
   exact ⟨by simp [t1],rfl⟩
 · have t1:decide (0≤a)=false:=decide_eq_false h
   go_enter Tryz.func116,Tryz.ntmps116
   go_wp2
   go_returns
   exact ⟨by simp [t1],rfl⟩
end Go.Proofs.YtfkcdnaghndgfaaGreatDoor
namespace Go.Proofs.YtfkcdnaghndgfaaGreatDoor
open Go.RowKit
def Qm (y:Int):Bool:=decide (y%4=0)&&decide (y≠2100)
def qI (y m:Int):Int:=if m<1∨12<m then 0 else if m=2 then (if Qm y=true then 29 else 28) else if m=4∨m=6∨m=9∨m=11 then 30 else 31
theorem zfh (y:Int) (w:World) (hy:1980≤y) (hy2:y≤2107):Calls Tryz.prog 148 #[.int .i64 y] w fun e w'=>e = .returned (.bool (Qm y))∧w=w':=by
 have h0:(0:Int)≤y:=by omega
 by_cases h:y%4=0
 · have t1:(y%4==0)=true:=by simp [h]
   have HB:=Lib.hid (show Qm y=(y != 2100) from by unfold Qm; rw [decide_eq_true h]; by_cases h2:y=2100<;>simp [h2])
   clear h
   go_enter Tryz.func148,Tryz.ntmps148
   go_wp2
   go_returns
   exact ⟨by rw [HB.out]; rfl,rfl⟩
 · have t1:(y%4==0)=false:=by simp [h]
   have HB:=Lib.hid (show Qm y=false from by unfold Qm; rw [decide_eq_false h]; rfl)
   clear h
   go_enter Tryz.func148,Tryz.ntmps148
   go_wp2
   go_returns
   exact ⟨by rw [HB.out]; rfl,rfl⟩
set_option maxRecDepth 100000 in
set_option maxHeartbeats 6400000 in
theorem ze3 (y m:Int) (w:World) (hy:1980≤y) (hy2:y≤2107) (hm0:0≤m) (hm:m≤15):Calls Tryz.prog 117 #[.int .i64 y,.int .i64 m] w fun e w'=>e = .returned (.int .i64 (qI y m))∧Upd [] w w':=by
 have t1:decide (y<1980)=false:=decide_eq_false (by omega)
 have t2:decide (2107<y)=false:=decide_eq_false (by omega)
 have HL:=Lib.hid (fun w'=>zfh y w' hy hy2)
 by_cases h2:m=2
 · subst h2
   cases hb:Qm y with
   | true =>
     have HB:=Lib.hid (show qI y 2=29 from by unfold qI; rw [hb]; rfl)
     rw [hb] at HL
     go_enter Tryz.func117,Tryz.ntmps117
     go_wp2_with fail
     refine (HL.out _).mono ?_
     rintro e w1 ⟨rfl,rfl⟩
     go_wp2
     go_returns
     exact ⟨by rw [HB.out]; rfl,(Upd.refl _ _).alloc _⟩
   | false =>
     have HB:=Lib.hid (show qI y 2=28 from by unfold qI; rw [hb]; rfl)
     rw [hb] at HL
     go_enter Tryz.func117,Tryz.ntmps117
     go_wp2_with fail
     refine (HL.out _).mono ?_
     rintro e w1 ⟨rfl,rfl⟩
     go_wp2
     go_returns
     exact ⟨by rw [HB.out]; rfl,(Upd.refl _ _).alloc _⟩
 · clear HL
   rcases (by omega:m=0∨m=1∨m=2∨m=3∨m=4∨m=5∨m=6∨m=7∨m=8∨m=9∨m=10∨m=11∨m=12∨m=13∨m=14∨m=15) with rfl | rfl | rfl | rfl | rfl | rfl | rfl | rfl | rfl | rfl | rfl | rfl | rfl | rfl | rfl | rfl
   all_goals first
    | (exact absurd rfl h2)
    | (clear h2
       go_enter Tryz.func117,Tryz.ntmps117
       go_wp2
       go_returns
       first | exact ⟨rfl,(Upd.refl _ _).alloc _⟩ | exact ⟨rfl,.refl _ _⟩)
set_option maxRecDepth 100000 in
set_option maxHeartbeats 6400000 in
theorem zej (y m:Int) (w:World) (hy:1980≤y) (hy2:y≤2107) (hm0:0≤m) (hm:m≤15):Calls Tryz.prog 92 #[.int .i64 y,.int .i64 m] w fun e w'=>e = .returned (.int .i64 (qI y m))∧w=w':=by
 have t1:decide (y<1980)=false:=decide_eq_false (by omega)
 have t2:decide (2107<y)=false:=decide_eq_false (by omega)
 have h0:(0:Int)≤y:=by omega
 by_cases h2:m=2
 · subst h2
   by_cases h4:y%4=0
   · have t3:(y%4==0)=true:=by simp [h4]
     by_cases h5:y=2100
     · have HB:=Lib.hid (show qI y 2=28 from by subst h5; rfl)
       have t4:(y != 2100)=false:=by simp [h5]
       clear h4 h5
       go_enter Tryz.func92,Tryz.ntmps92
       go_wp2
       go_returns
       exact ⟨by rw [HB.out]; rfl,rfl⟩
     · have HB:=Lib.hid (show qI y 2=29 from by unfold qI Qm; simp [h4,h5])
       have t4:(y != 2100)=true:=by simp [h5]
       clear h4 h5
       go_enter Tryz.func92,Tryz.ntmps92
       go_wp2
       go_returns
       exact ⟨by rw [HB.out]; rfl,rfl⟩
   · have t3:(y%4==0)=false:=by simp [h4]
     have HB:=Lib.hid (show qI y 2=28 from by unfold qI Qm; simp [h4])
     clear h4
     go_enter Tryz.func92,Tryz.ntmps92
     go_wp2
     go_returns
     exact ⟨by rw [HB.out]; rfl,rfl⟩
 · rcases (by omega:m=0∨m=1∨m=2∨m=3∨m=4∨m=5∨m=6∨m=7∨m=8∨m=9∨m=10∨m=11∨m=12∨m=13∨m=14∨m=15) with rfl | rfl | rfl | rfl | rfl | rfl | rfl | rfl | rfl | rfl | rfl | rfl | rfl | rfl | rfl | rfl
   all_goals first
    | (exact absurd rfl h2)
    | (clear h2
       go_enter Tryz.func92,Tryz.ntmps92
       go_wp2
       go_returns
       exact ⟨rfl,rfl⟩)
end Go.Proofs.YtfkcdnaghndgfaaGreatDoor
namespace Go.Proofs.YtfkcdnaghndgfaaGreatDoor
theorem ZX {P:Program} {md:Region.Mode} {ops:Array Oper} {Q:Exit→Act→World→Prop} {S:World→Prop} {i:Nat} {oi:Oper} {d:Option Tmp} {v:Value} {fuel:Nat} {listed:Array Bool} {a:Act} {w:World} (hi:ops[i]? =some oi) (hd:oi.dst=d)
 (hs:Region.noSelect ops=true) (hf:Region.free md ops listed i=true) (hr:(Region.ready md ops listed).contains i=true)
 (hQ : ∀ c a w,Q (.panic c) (a.put d v) w→Q (.panic c) a w) (hw:Region.wanted oi (yielded ops a.tmps)=true) (hy : ∀ w,S w→(execOp a.eval oi).run P w = .ok (.value v) w) (hS:S w)
 (h:wpAnyH P md ops Q S fuel (listed.setIfInBounds i true) (a.put d v) w):wpAnyH P md ops Q S (fuel+1) listed a w:=by
 subst hd
 exact wpAnyH_take hi hs hf hr hQ (Or.inl ⟨hw,hy⟩) hS h
theorem zgM {P:Program} {md:Region.Mode} {ops:Array Oper} {Q:Exit→Act→World→Prop} {S:World→Prop} {i:Nat} {oi:Oper} {d:Option Tmp} {fuel:Nat} {listed:Array Bool} {a:Act} {w:World} (hi:ops[i]? =some oi) (hd:oi.dst=d)
 (hs:Region.noSelect ops=true) (hf:Region.free md ops listed i=true) (hr:(Region.ready md ops listed).contains i=true)
 (hQ : ∀ c a w,Q (.panic c) (a.put d undef) w→Q (.panic c) a w) (hw:Region.wanted oi (yielded ops a.tmps)=false) (hS:S w)
 (h:wpAnyH P md ops Q S fuel (listed.setIfInBounds i true) (a.put d undef) w):wpAnyH P md ops Q S (fuel+1) listed a w:=by
 subst hd
 exact wpAnyH_take hi hs hf hr hQ (Or.inr ⟨hw,rfl⟩) hS h
end Go.Proofs.YtfkcdnaghndgfaaGreatDoor
