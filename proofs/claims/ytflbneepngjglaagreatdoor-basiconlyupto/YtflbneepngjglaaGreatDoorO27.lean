/- The library's searches of slices, once for all element types: IndexFunc, ContainsFunc, EqualFunc, Equal, Index, Contains. -/
import Derived.Test.YtflbneepngjglaaGreatDoorO25
import Derived.Test.YtflbneepngjglaaGreatDoorO26
import Derived.Lib.Builder
import Derived.Laws.Externs
import Derived.Test.YtflbneepngjglaaGreatDoorO22
set_option linter.all false
namespace Go.Proofs.YtflbneepngjglaaGreatDoor
open Go Go.Avm Go.RowKit
theorem Qjq : ∀{els:List AV} {l:List ByteArray},strs els=some l->els=l.map .str
 | [],l,h=>by cases h; rfl
 | x::r,l,h=>by
  cases x with
  | str s=>
   simp only[strs]at h;cases hr:strs r with
   | none=>rw[hr]at h; cases h
   | some q=>rw[hr]at h; cases h; rw[Qjq hr]; rfl
  | _=>simp[strs]at h
theorem Qei : ∀(l:List ByteArray),distinct l=true↔(l.map (·.data.toList)).Nodup
 | []=>by simp[distinct]
 | x::l=>by
  simp only[distinct,Bool.and_eq_true,List.all_eq_true,Bool.not_eq_true',beq_eq_false_iff_ne,List.map_cons,List.nodup_cons,Qei l,List.mem_map,not_exists,not_and,ByteArray.toList_eq];exact⟨fun h=>⟨fun y hy e=>h.1 y hy e.symm,h.2⟩,fun h=>⟨fun y hy e=>h.1 y hy e.symm,h.2⟩⟩
theorem QrA {w0 w:World}{wr:Nat}{β:Beta}{h:Avm.H}{x:AV}{v:Value}{l:List ByteArray}(S:Sim w0 wr β h w)(he:Zv h x=some (l.map .str))(hr:Rel (view wr β h w) β x v):QiM w v (l.map (·.data.toList)):=by
 obtain⟨a,cap,rfl,hcap,hq⟩:=Qcr S he hr;by_cases hl:l=[]
 ·subst hl; exact .inl ⟨rfl,a,cap,rfl⟩
 ·rcases hq with hq | ⟨c,o,sz,rfl,hbe⟩
  ·exact absurd (by simpa using hq) hl
  ·have hg: ∀j s,l[j]? =some s->w.cell? ⟨c,o+j,none⟩=some (.string s):=fun j s hj=>by
     obtain⟨h1,h2⟩:=hbe j (.str s) (by rw[List.getElem?_map,hj]; rfl)
     have hsz:sz=1:=h1.symm;subst hsz;obtain⟨u,h3,h4⟩:=h2 0 (.str s) rfl;unfold Rel at h4;subst h4;unfold rdw at h3;simpa using h3
   refine .inr ⟨c,o,cap,by simp,by simpa using hcap,?_,fun j hj=>?_⟩
   ·have hp:0<l.length:=List.length_pos_iff.2 hl;exact QlY (hg 0 _ (List.getElem?_eq_getElem hp))
   ·have hj':j<l.length:=by simpa using hj
    rw[hg j _ (List.getElem?_eq_getElem hj')]
    simp[Go.Proofs.encStr,hj']
theorem Qrz (w0:World):Qey Tryz.prog w0 148 QgY:=by
 refine⟨fun args h r h' ev=>?_,fun args h r h' wr β w vs ev hwr S hr=>?_⟩
 ·unfold QgY at ev;split at ev
  ·split at ev
   ·split at ev
    ·split at ev
     ·cases ev; exact⟨[],by simp,Yc⟩
     ·cases ev
    ·cases ev
   ·cases ev
  ·cases ev
 ·unfold QgY at ev;split at ev
  ·split at ev
   ·rename_i els hels;split at ev
    ·rename_i l hl;split at ev
     ·rename_i hlen;cases ev;rw[Qjq hl]at hels;unfold Qr at hr;obtain⟨v,r1,e1,hv,hr⟩:=hr;unfold Qr at hr;subst hr;obtain rfl:vs= #[v]:=by cases vs; simp_all
      refine .inl ⟨YE Tryz.func148 (by decide+kernel) rfl _ w,(QmJ _ v w (QrA S hels hv) (by simpa using hlen)).mono ?_⟩
      rintro e w' ⟨rfl,hb⟩
      obtain⟨S',E⟩:=QdN S hb.os hb.tape hb.output hb.size hb.block;refine⟨_,rfl,β,S',E,?_⟩
      unfold Rel
      congr 1
      have:=Qei l;cases hd:distinct l<;>simp_all
     ·cases ev
    ·cases ev
   ·cases ev
  ·cases ev
theorem QlS {w0:World}{m:Int}(hm:w0.cell? ⟨Tryz.Qcl.g 1,0,none⟩=some (.int .i64 m)):Qey Tryz.prog w0 166 QX:=by
 refine⟨fun args h r h' ev=>?_,fun args h r h' wr β w vs ev hwr S hr=>?_⟩
 ·unfold QX at ev;split at ev
  ·split at ev
   ·cases ev; exact⟨[],by simp,Yc⟩
   ·cases ev
  ·cases ev
 ·unfold QX at ev;split at ev
  ·rename_i s t;split at ev
   ·rename_i hs;cases ev;unfold Qr at hr;obtain⟨v,r1,e1,hv,hr⟩:=hr;unfold Qr at hr;obtain⟨v2,r2,rfl,hv2,hr⟩:=hr;unfold Qr at hr;subst hr;unfold Rel at hv hv2;subst hv hv2;obtain rfl:vs= #[.string s,.string t]:=by cases vs; simp_all
    have hmw:w.cell? ⟨Tryz.Qcl.g 1,0,none⟩=some (.int .i64 m):=(S.below.cell (QlY hm)).trans hm;refine .inl ⟨YE Tryz.func166 (by decide+kernel) rfl _ w,(Any.strings_Contains { Tryz.Qyk with} s t m w hs hmw).mono ?_⟩
    rintro e w' ⟨rfl,rfl⟩
    exact⟨_,rfl,β,S,Ext.refl _ _ _ _,by unfold Rel; rfl⟩
   ·cases ev
  ·cases ev
theorem QpY (w0:World):Qey Tryz.prog w0 71 (Jr 4 lim):=
 Qig Tryz.QBI Tryz.t31 _ 4 56 lim (by kernel_rfl) rfl rfl rfl rfl (by decide) Tryz.sizeOf31 (by unfold lim; omega) (by unfold lim maxLen; omega) (enters_of Tryz.func71 (by kernel_rfl) rfl) w0
theorem QpZ (w0:World):Qey Tryz.prog w0 97 (Jr 8 lim):=
 Qig Tryz.QBJ Tryz.t28 _ 8 96 lim (by kernel_rfl) rfl rfl rfl rfl (by decide) Tryz.sizeOf28 (by unfold lim; omega) (by unfold lim maxLen; omega) (enters_of Tryz.func97 (by kernel_rfl) rfl) w0
theorem Qqa (w0:World):Qey Tryz.prog w0 98 (Jr 12 lim):=
 Qig Tryz.QBK Tryz.t46 _ 12 144 lim (by kernel_rfl) rfl rfl rfl rfl (by decide) Tryz.sizeOf46 (by unfold lim; omega) (by unfold lim maxLen; omega) (enters_of Tryz.func98 (by kernel_rfl) rfl) w0
theorem Qua (w0:World):Qey Tryz.prog w0 249 QqB:=by
 refine⟨fun args h r h' ev=>?_,fun args h r h' wr β w vs ev hwr S hr=>?_⟩
 ·unfold QqB at ev;split at ev
  ·cases ev; exact⟨[],by simp,Yc⟩
  ·cases ev
 ·unfold QqB at ev;split at ev
  ·cases ev;unfold Qr at hr;obtain⟨v,r1,e1,hv,hr⟩:=hr;unfold Qr at hr;subst hr;obtain rfl:vs= #[v]:=by cases vs; simp_all
   refine .inr ⟨v,w,?_,β,S,Ext.refl _ _ _ _,hv⟩
   rw[run_callFunc_extern Tryz.func249 (by kernel_rfl) (by kernel_rfl) (by kernel_rfl) (e:=Extern.AbiNoEscape.same) (by kernel_rfl),Lib.run_noEscape]
   rfl
  ·cases ev
theorem QBT {f:FuncId}{F:F}(hF:Qvq fnl f=some F):FOk Tryz.prog (QbI Tryz.prog pf) f F:=by
 have h:=List.all_eq_true.1 checked (f,F) (QnK hF);exact Qzi h
theorem Qzv {w0:World}{m:Int}(hm:w0.cell? ⟨Tryz.Qcl.g 1,0,none⟩=some (.int .i64 m)):Qrv Tryz.prog w0 (QbI Tryz.prog pf) cfg where
 fn:=fun f F _ hF=>QBT hF
 ext:=fun f x hx=>by
  simp only[cfg,Qym]at hx;split at hx
  ·rename_i hf; cases hx; subst hf; exact Qrz w0
  ·split at hx
   ·rename_i hf; cases hx; subst hf; exact QlS hm
   ·split at hx
    ·rename_i hf; cases hx; subst hf; exact QpY w0
    ·split at hx
     ·rename_i hf; cases hx; subst hf; exact QpZ w0
     ·split at hx
      ·rename_i hf; cases hx; subst hf; exact Qqa w0
      ·split at hx
       ·rename_i hf; cases hx; subst hf; exact Qua w0
       ·cases hx
 draw:=QxB follows fun g hg=>by
  unfold pf at hg;split at hg
  ·rename_i h; exact .inl h
  ·rename_i b h; exact .inr ⟨b,h⟩
  ·cases hg
end Go.Proofs.YtflbneepngjglaaGreatDoor
namespace Go.Avm
def ixL (sz:Nat)(ag:Bool):C:=.forget [0,1,4,7,8] (.seq (.forget [0,1,7,8,9] (.ops [.op (some 9) (.bin .lss (.t 8) (.t 7))]))
 (.seq (.forget [0,1,7,8] (.cond (.t 9) (.skip)
 (.exit 0)))
 (.seq (.forget [0,1,4,7,8] (.block 1 (.seq (.forget [0,1,5,7,8] (.ops [.op (some 10) (.mv (.t 8)),.op (some 5) (.mv (.t 10))]))
 (.seq (.forget [0,1,5,7,8,16] (.ops [.op (some 11) (.mv (.t 1)),.op (some 12) (.mv (.t 0)),.op (some 13) (.mv (.t 5)),.op (some 14) (.idxa sz (.t 12) (.t 13)),.op (some 15) (.ld sz ag (.t 14)),.op (some 16) (.callv true (.t 11) [(.t 15)])]))
 (.cond (.t 16) (.seq (.forget [4] (.ops [.op (some 17) (.mv (.t 5)),.op (some 4) (.mv (.t 17))]))
 (.ret))
 (.skip))))))
 (.ops [.op (some 18) (.bin .add (.t 8) (.k (.int .i64 1))),.op (some 8) (.mv (.t 18))]))))
def ixC (sz:Nat)(ag:Bool):C:=.seq (.forget [0,1] (.ops [.op (some 4) (.mv (.k (.int .i64 0)))]))
 (.seq (.forget [4] (.seq (.forget [0,1,7,8] (.ops [.op (some 6) (.mv (.t 0)),.op (some 7) (.len false (.t 6)),.op (some 8) (.mv (.k (.int .i64 0)))]))
 (.block 0 (.loop [0,1,7,8] (ixL sz ag)))))
 (.seq (.forget [4] (.ops [.op (some 4) (.mv (.k (.int .i64 (-1))))]))
 (.ret)))
def ixF (sz:Nat)(ag:Bool):F:=⟨.snap,19,[.t 4],ixC sz ag⟩
def ctC (n:FuncId):C:=.seq (.forget [0,1] (.ops [.op (some 4) (.mv (.k (.bool false)))]))
 (.seq (.forget [4] (.ops [.op (some 5) (.mv (.t 0)),.op (some 6) (.mv (.t 1)),.op (some 7) (.call n [(.t 5),(.t 6)]),.op (some 8) (.bin .geq (.t 7) (.k (.int .i64 0))),.op (some 4) (.mv (.t 8))]))
 (.ret))
def ctF (n:FuncId):F:=⟨.snap,9,[.t 4],ctC n⟩
@[simp] theorem QBk (h:H)(n b ver sz i o:Nat):snap h (n+1) (.ptr b ver sz i o)=match h[b]? with
      | some (.arr v z els)=>if v=ver/\z=sz then(match els[i]? with
          | some e=>if o<=e.cells.length then(QH (snap h n) (e.cells.drop o)).map .iptr else none
          | none=>none)else none
      | _=>none:=rfl
@[simp] theorem QAE (h:H)(n:Nat)(l:List AV)(hl:Qv l=true):snap h n (.iptr l)=some (.iptr l):=Zc (by simpa using hl)
@[simp] theorem QDS (n:Nat):((n:Int)<0)↔False:=⟨fun h=>by omega,False.elim⟩
@[simp] theorem QBO (base n:Nat)(l:List AV)(h:H)(hl:Qv l=true):frz base n (.iptr l) h=some (.iptr l,h):=Jj (by simpa using hl)
@[simp] theorem Qtx (n:Nat):(0:Int)<=(n:Int)+1:=by omega
@[simp] theorem Qxm (n:Nat):(0:Int)<(n:Int)+1:=by omega
def idxOf {α:Type}(p:α->Bool)(l:List α):Int:=match l.findIdx? p with | some j=>j | none=>-1
theorem Qkf {α:Type}(p:α->Bool)(l:List α):decide (0<=idxOf p l)=l.any p:=by
 unfold idxOf;cases hp:l.findIdx? p with
 | none=>
  have h3:(l.findIdx? p).isSome=false:=by rw[hp]; rfl
  rw[List.findIdx?_isSome]at h3
  rw[h3]; rfl
 | some j=>
  have h3:(l.findIdx? p).isSome=true:=by rw[hp]; rfl
  rw[List.findIdx?_isSome]at h3
  rw[h3]; simp
theorem Qy.cells{n k sz:Nat}{g:H}{acc:List AV}{v:AV}(hI:Qy n k sz g acc v):v.cells=[v]:=by
 rcases hI with⟨_,rfl⟩ | ⟨_,_,rfl,_⟩<;>rfl
theorem Qy.one{n k sz:Nat}{g:H}{acc:List AV}{v:AV}(hI:Qy n k sz g acc v):v.one=true:=by
 rcases hI with⟨_,rfl⟩ | ⟨_,_,rfl,_⟩<;>rfl
theorem Qy.grow{n k sz:Nat}{g:H}{acc:List AV}{v:AV}(hI:Qy n k sz g acc v)(t:H):Qy n k sz (g++t) acc v:=by
 rcases hI with h | ⟨j,ver,h1,h2⟩
 ·exact .inl h
 ·exact .inr ⟨j,ver,h1,by rw[List.getElem?_append_left (List.getElem?_eq_some_iff.1 h2).1]; exact h2⟩
theorem Qy.QCR{h pre g:H}{base ws sz lim:Nat}{acc ys:List AV}{v:AV}(hb:base<=h.length)(hI:Qy h.length pre.length sz g acc v)(hl:acc.length+ys.length<=lim)(hy:ys.all (fun v=>v.cells.length == sz&&v.ZF)=true):
    ∃v' g',Ju base ws sz lim v ys (h++(pre++g))=some (v',h++(pre++g'))/\Qy h.length pre.length sz g' (acc++ys) v':=by
 rcases hI with⟨rfl,rfl⟩ | ⟨j,ver,rfl,h2⟩
 ·refine⟨.osl (h.length+(g.length+pre.length)) 0 sz 0 ys.length,g++ [.arr 0 sz ys],?_,.inr ⟨g.length,0,by simp,by simp⟩⟩
  have:ys.length<=lim:=by simpa using hl
  simp only[Ju,this,hy,and_self,if_true];simp; omega
 ·have hj:=(List.getElem?_eq_some_iff.1 h2).1
  have e:(h++(pre++g))[h.length+(j+pre.length)]? =some (.arr ver sz acc):=by
   rw[Zh,Nat.add_comm,Zh,h2]
  refine⟨.osl (h.length+(j+pre.length)) (ver+1) sz 0 (acc.length+ys.length),g.set j (.arr (ver+1) sz (acc++ys)),?_,.inr ⟨j,ver+1,by simp,by simp[hj]⟩⟩
  unfold Ju;dsimp only;rw[e];dsimp only;rw[if_pos ⟨rfl,rfl,rfl,rfl,rfl,.inl (by omega),hl,hy⟩,heap_set,Nat.add_comm j,heap_set]
theorem Qy.QEi{h pre g:H}{base sz:Nat}{acc:List AV}{v:AV}(hb:base<=h.length)(hI:Qy h.length pre.length sz g acc v)(hp:Qv acc=true)(n:Nat): ∃g',frz base (n+1) v (h++(pre++g))=some (.isl acc,h++(pre++g')):=by
 rcases hI with⟨rfl,rfl⟩ | ⟨j,ver,rfl,h2⟩
 ·exact⟨g,rfl⟩
 ·have e:(h++(pre++g))[h.length+(j+pre.length)]? =some (.arr ver sz acc):=by
    rw[Zh,Nat.add_comm,Zh,h2]
  refine⟨g.set j (.dead (ver+1)),?_⟩
  rw[Qxq,if_neg (by omega)]
  simp only[look,e,kill];rw[if_pos (by simp),heap_set,Nat.add_comm j,heap_set]
  simp[Zj hp]
theorem Qy.QEd{h pre g t:H}{base ws sz lim:Nat}{acc ys:List AV}{v:AV}{r:Option (AV×H)}(hb:base<=h.length)(hI:Qy h.length pre.length sz g acc v)(hA:Ju base ws sz lim v ys (h++(pre++(g++t)))=r)(hl:acc.length+ys.length<=lim)(hy:ys.all (fun v=>v.cells.length == sz&&v.ZF)=true):
    ∃v' g',r=some (v',h++(pre++g'))/\Qy h.length pre.length sz g' (acc++ys) v':=by
 obtain⟨v',g',h1,h2⟩:=Qy.QCR hb (hI.grow t) hl hy;exact⟨v',g',hA.symm.trans h1,h2⟩
theorem Qy.use{h pre g t:H}{ws sz lim:Nat}{acc ys:List AV}{v:AV}{r:Option (AV×H)}(hI:Qy h.length pre.length sz g acc v)(hA:Ju h.length ws sz lim v ys (h++(pre++(g++t)))=r)(hl:acc.length+ys.length<=lim)(hy:ys.all (fun v=>v.cells.length == sz&&v.ZF)=true):
    ∃v' g',r=some (v',h++(pre++g'))/\Qy h.length pre.length sz g' (acc++ys) v':=Qy.QEd (Nat.le_refl _) hI hA hl hy
theorem Qy.QEe{h pre g:H}{ws sz lim:Nat}{acc ys:List AV}{v:AV}{r:Option (AV×H)}(hI:Qy h.length pre.length sz g acc v)(hA:Ju h.length ws sz lim v ys (h++(pre++g))=r)(hl:acc.length+ys.length<=lim)(hy:ys.all (fun v=>v.cells.length == sz&&v.ZF)=true):
    ∃v' g',r=some (v',h++(pre++g'))/\Qy h.length pre.length sz g' (acc++ys) v':=by
 obtain⟨v',g',h1,h2⟩:=Qy.QCR (Nat.le_refl _) hI hl hy;exact⟨v',g',hA.symm.trans h1,h2⟩
theorem Qy.Qvo{h pre g:H}{base sz n:Nat}{acc:List AV}{v:AV}{r:Option (AV×H)}(hb:base<=h.length)(hI:Qy h.length pre.length sz g acc v)(hA:Avm.frz base (n+1) v (h++(pre++g))=r)(hp:Qv acc=true): ∃g',r=some (.isl acc,h++(pre++g')):=by
 obtain⟨g',h1⟩:=Qy.QEi hb hI hp n;exact⟨g',hA.symm.trans h1⟩
theorem Qy.QgC{h pre g:H}{sz n:Nat}{acc:List AV}{v:AV}{r:Option (AV×H)}(hI:Qy h.length pre.length sz g acc v)(hA:Avm.frz h.length (n+1) v (h++(pre++g))=r)(hp:Qv acc=true): ∃g',r=some (.isl acc,h++(pre++g')):=Qy.Qvo (Nat.le_refl _) hI hA hp
theorem Qy.len{n k sz:Nat}{g:H}{acc:List AV}{v:AV}(hI:Qy n k sz g acc v):(v= .esl/\acc=[])\/ ∃b ver,v= .osl b ver sz 0 acc.length:=by
 rcases hI with⟨h1,h2⟩ | ⟨j,ver,h1,_⟩
 ·exact .inl ⟨h2,h1⟩
 ·exact .inr ⟨_,_,h1⟩
theorem Qdo {cfg:Cfg}{f:FuncId}{F:F}(hx:cfg.ext f=none)(hf:cfg.fn f=some F)(hp:F.pol= .snap){ws:Nat}{args args':List AV}{h:H}(hs:QH (snap h deep) args=QH (snap h deep) args'):Qb cfg ws f args h=Qb cfg ws f args' h:=by
 unfold Qb
 congr 1
 funext n
 cases n with
 | zero=>rfl
 | succ n=>
  unfold JB;rw[hx,hf];dsimp only;unfold evF;rw[hp];unfold JZ;rw[hs]
theorem Qy.els{h pre g:H}{sz:Nat}{acc:List AV}{v:AV}(hI:Qy h.length pre.length sz g acc v):Zv (h++(pre++g)) v=some acc:=by
 rcases hI with⟨rfl,rfl⟩ | ⟨j,ver,rfl,h2⟩
 ·rfl
 ·have e:(h++(pre++g))[h.length+(j+pre.length)]? =some (.arr ver sz acc):=by
    rw[Zh,Nat.add_comm,Zh,h2]
  simp[Zv,look,e]
def Still (cfg:Cfg)(g:FuncId):Prop:=cfg.pol g=some .snap\/ ∃b,cfg.pol g=some (.pur b)
section
variable {cfg : Cfg} {K g : FuncId} {sz k : Nat} {ag : Bool} {α : Type} {enc : α -> AV} {l : List α} {p : α -> Bool} {cap cap' : List AV}
theorem QcM (hx:cfg.ext K=none)(hK:cfg.fn K=some (ixF sz ag))(hlen:l.length<=67108864)(hpure:Qv (l.map enc)=true)
    (Qja: ∀x∈l,(enc x).cells.length=sz/\ldc sz ag 0 (enc x).cells=some (enc x)) (hs:Still cfg g) {h:H} (hcap:QH (snap h 7) cap=some cap')
    (hp: ∀x∈l,∀ws h',Qb cfg ws g (cap'.take k++([enc x]++cap'.drop k)) h'=some (.bool (p x),h')) (ws:Nat):
    Qb cfg ws K [.isl (l.map enc),.QI g k cap] h=some (.int .i64 (idxOf p l),h):=by
 refine Qc hx hK ?_
 have hsn:=Qx (h:=h) (n:=7) hpure
 have hl:=QE (f:=evC (Qb cfg) Qa cfg.pol h.length h.length (ixL sz ag)) (keep:=[0,1,7,8]) l (fun i=>[(0,.isl (l.map enc)),(1,.QI g k cap'),(7,.int .i64 l.length),(8,.int .i64 i)]) (fun _=>h)
  (fun i r=>match r.findIdx? p with | some j=>(.ret,[(4,.int .i64 ((i+j:Nat):Int))],h) | none=>(.exit 0,[(0,.isl (l.map enc)),(1,.QI g k cap'),(7,.int .i64 l.length),(8,.int .i64 l.length)],h)) ?_ ?_
 ·unfold idxOf;cases hq:l.findIdx? p<;>simp[hq]at hl<;>simp[ixF,ixC,hcap,hsn,hl]
 ·intro i x r hd hi hx K hK;have hm:x∈l:=by rw[←hx]; exact List.getElem_mem hi
  have hw:=Qd (n:=i+1) (by omega)
  simp at hw;obtain⟨h1,h2⟩:=Qja x hm;have hcl:=fun h'=>hp x hm h.length h'
  rw[List.findIdx?_cons]
  simp only[List.cons_append,List.nil_append]at hcl;cases hv:p x
  ·rw[hv]at hcl;rcases hs with hs | ⟨b,hs⟩<;>cases hq:r.findIdx? p<;>simp[hq]at hK<;>simp[-ldc,ixL,hi,hx,h1,h2,hs,hcl,hw,hK]<;>omega
  ·rw[hv]at hcl;rcases hs with hs | ⟨b,hs⟩<;>simp[-ldc,ixL,hi,hx,h1,h2,hs,hcl]
 ·intro K;simp[ixL]
theorem ZZ {J:FuncId}(jx:cfg.ext J=none)(hJ:cfg.fn J=some (ctF K))(hx:cfg.ext K=none)(hK:cfg.fn K=some (ixF sz ag))(hlen:l.length<=67108864)(hpure:Qv (l.map enc)=true)
    (Qja: ∀x∈l,(enc x).cells.length=sz/\ldc sz ag 0 (enc x).cells=some (enc x)) (hs:Still cfg g) {h:H} (hcap:QH (snap h 7) cap=some cap') (hcp:Qv cap'=true)
    (hp: ∀x∈l,∀ws h',Qb cfg ws g (cap'.take k++([enc x]++cap'.drop k)) h'=some (.bool (p x),h')) (ws:Nat):
    Qb cfg ws J [.isl (l.map enc),.QI g k cap] h=some (.bool (l.any p),h):=by
 refine Qc jx hJ ?_
 have hsn:=Qx (h:=h) (n:=7) hpure;have h1:=QcM hx hK hlen hpure Qja hs (h:=h) (Qx hcp) hp h.length;simp[ctF,ctC,hcap,hsn,h1,Qkf]
end
def eqL {α β:Type}(p:α->β->Bool):List α->List β->Bool
 | [],[]=>true
 | x::l,y::m=>p x y&&eqL p l m
 | _,_=>false
theorem QaO {α β:Type}{p:α->β->Bool}: ∀{l:List α} {m:List β},eqL p l m=true->l.length=m.length
 | [],[],_=>rfl
 | x::l,[],h=>by simp[eqL]at h
 | [],y::m,h=>by simp[eqL]at h
 | x::l,y::m,h=>by
  simp only[eqL,Bool.and_eq_true]at h;simp[QaO h.2]
def efL (sz:Nat)(z:AV):C:=.forget [1,2,6,15,16,17] (.seq (.forget [1,2,15,16,17,18] (.ops [.op (some 18) (.bin .lss (.t 17) (.t 16))]))
 (.seq (.forget [1,2,15,16,17] (.cond (.t 18) (.skip)
 (.exit 0)))
 (.seq (.forget [1,2,6,15,16,17] (.block 1 (.seq (.forget [1,2,7,8,15,16,17] (.ops [.op (some 19) (.mv (.t 17)),.op (some 20) (.idxa sz (.t 15) (.t 17)),.op (some 21) (.ld sz true (.t 20)),.op (some 8) (.box sz (.k z)),.op (some 7) (.mv (.t 19)),.op none (.st sz (.t 8) (.t 21))]))
 (.seq (.forget [1,2,8,9,15,16,17] (.ops [.op (some 22) (.mv (.t 1)),.op (some 23) (.mv (.t 7)),.op (some 24) (.idxa sz (.t 22) (.t 23)),.op (some 25) (.ld sz true (.t 24)),.op (some 9) (.box sz (.k z)),.op none (.st sz (.t 9) (.t 25))]))
 (.seq (.forget [1,2,15,16,17,30] (.ops [.op (some 26) (.mv (.t 2)),.op (some 27) (.ld sz true (.t 8)),.op (some 28) (.ld sz true (.t 9)),.op (some 29) (.callv true (.t 26) [(.t 27),(.t 28)]),.op (some 30) (.un .not (.t 29))]))
 (.cond (.t 30) (.seq (.forget [6] (.ops [.op (some 6) (.mv (.k (.bool false)))]))
 (.ret))
 (.skip)))))))
 (.ops [.op (some 31) (.bin .add (.t 17) (.k (.int .i64 1))),.op (some 17) (.mv (.t 31))]))))
def efC (sz:Nat)(z:AV):C:=.seq (.forget [0,1,2] (.ops [.op (some 6) (.mv (.k (.bool false)))]))
 (.seq (.forget [0,1,2,6] (.seq (.forget [0,1,2,14] (.ops [.op (some 10) (.mv (.t 0)),.op (some 11) (.len false (.t 10)),.op (some 12) (.mv (.t 1)),.op (some 13) (.len false (.t 12)),.op (some 14) (.bin .neq (.t 11) (.t 13))]))
 (.cond (.t 14) (.seq (.forget [6] (.ops [.op (some 6) (.mv (.k (.bool false)))]))
 (.ret))
 (.skip))))
 (.seq (.forget [6] (.seq (.forget [1,2,15,16,17] (.ops [.op (some 15) (.mv (.t 0)),.op (some 16) (.len false (.t 15)),.op (some 17) (.mv (.k (.int .i64 0)))]))
 (.block 0 (.loop [1,2,15,16,17] (efL sz z)))))
 (.seq (.forget [6] (.ops [.op (some 6) (.mv (.k (.bool true)))]))
 (.ret))))
def efF (sz:Nat)(z:AV):F:=⟨.snap,32,[.t 6],efC sz z⟩
theorem WE {cfg:Cfg}{K g:FuncId}{sz:Nat}{zs:List AV}{α:Type}{cl:α->List AV}{l m:List α}{p:α->α->Bool}
    (hx:cfg.ext K=none) (hK:cfg.fn K=some (efF sz (.agg zs))) (hlen:l.length<=67108864) (hpl:Qv (l.map fun x=>.agg (cl x))=true) (hpm:Qv (m.map fun x=>.agg (cl x))=true)
    (hcl: ∀x,(cl x).length=sz/\(cl x).all AV.one=true) (hz:zs.length=sz) (hzo:zs.all AV.one=true) (hs:Still cfg g)
    (hp: ∀x∈l,∀y∈m,∀ws h',Qb cfg ws g [.agg (cl x),.agg (cl y)] h'=some (.bool (p x y),h')) (ws:Nat) (h:H):
    Qb cfg ws K [.isl (l.map fun x=>.agg (cl x)),.isl (m.map fun x=>.agg (cl x)),.QI g 0 []] h=some (.bool (eqL p l m),h):=by
 refine Qc hx hK ?_
 have hsl:=Qx (h:=h) (n:=7) hpl;have hsm:=Qx (h:=h) (n:=7) hpm;by_cases hn:l.length=m.length
 ·have hlp:=Qg (γ:=H) (f:=evC (Qb cfg) Qa cfg.pol h.length h.length (efL sz (.agg zs))) (keep:=[1,2,15,16,17]) l (fun _ _=>True)
    (fun i _=>[(1,.isl (m.map fun x=>.agg (cl x))),(2,.QI g 0 []),(15,.isl (l.map fun x=>.agg (cl x))),(16,.int .i64 l.length),(17,.int .i64 i)]) (fun _ g=>h++g)
    (fun i r o=>∃g',o=if eqL p r (m.drop i)=true then(.exit 0,[(1,.isl (m.map fun x=>.agg (cl x))),(2,.QI g 0 []),(15,.isl (l.map fun x=>.agg (cl x))),(16,.int .i64 l.length),(17,.int .i64 l.length)],h++g')else(.ret,[(6,.bool false)],h++g')) ?_ ?_ [] trivial
  ·obtain⟨o,h1,g',h2⟩:=hlp;simp only[List.drop_zero]at h2;cases hq:eqL p l m<;>simp[hq]at h2<;>subst h2<;>simp at h1<;>simp[efF,efC,hn,hsl,hsm]<;>simp[←hn,h1]
  ·intro i x r g' hd hi hx _ K hK;have hw:=Qd (n:=i+1) (by omega)
   simp at hw;have him:i<m.length:=by omega
   have hdm:m.drop i=m[i]::m.drop (i+1):=List.drop_eq_getElem_cons him;rw[hdm];have hm1:x∈l:=by rw[←hx]; exact List.getElem_mem hi
   have hm2:m[i]∈m:=List.getElem_mem him;have hca:=fun h'=>hp x hm1 m[i] hm2 h.length h'
   obtain⟨y,hy⟩: ∃y,m[i]=y:=⟨_,rfl⟩;rw[hy]at hca ⊢;obtain⟨a1,a2⟩:=hcl x;obtain⟨b1,b2⟩:=hcl y;simp only[List.all_eq_true]at a2 b2 hzo
   replace a2:=eq_true a2
   replace b2:=eq_true b2
   replace hzo:=eq_true hzo
   obtain⟨o,h4,g2,h5⟩:=hK (g'++ [.arr 0 sz [.agg (cl x)],.arr 0 sz [.agg (cl y)]]) trivial;rw[eqL];have a3:List.take sz (cl x)=cl x:=by rw[←a1,List.take_length]
   have b3:List.take sz (cl y)=cl y:=by rw[←b1,List.take_length]
   have z3:List.drop sz zs=[]:=by rw[←hz,List.drop_length]
   cases hq:p x y
   ·refine⟨_,?_,g'++ [.arr 0 sz [.agg (cl x)],.arr 0 sz [.agg (cl y)]],rfl⟩
    rw[hq]at hca;rcases hs with hs | ⟨b,hs⟩<;>simp[efL,hi,hx,him,hy,hs,hca,hz,a1,b1,a3,b3,z3,a2,b2,hzo]
   ·refine⟨o,?_,g2,by simpa using h5⟩
    rw[hq]at hca;simp at h4;rcases hs with hs | ⟨b,hs⟩<;>simp[efL,hi,hx,him,hy,hs,hca,hz,a1,b1,a3,b3,z3,hw,h4,a2,b2,hzo]
  ·intro g' K _;refine⟨_,?_,g',rfl⟩
   have:m.drop l.length=[]:=by rw[hn]; simp
   rw[this];simp[efL,eqL]
 ·have hq:eqL p l m=false:=by
    cases hq:eqL p l m with
    | false=>rfl
    | true=>exact absurd (QaO hq) hn
  have hn2: ¬(l.length:Int)=m.length:=by omega
  rw[hq];simp[efF,efC,hn2,hsl,hsm]
end Go.Avm
