/-
  Warnings gathered: the program's checker; How many partitions each of some names has, as a row of its own; the greatest and the least of numbers: the program; Warnings of partitions: the program's checker; Racks of members: the program; Warnings of buckets: the program's checker; All warnings: the program; What must come of warnings, whatever the arguments are; LintKeys; What administrators set has keys that are spoken of; behind a claim nothing is told of owners and shares: plainly; LintAdmin: the walk. Own work (an AI agent).
-/
import Derived.Test.YtkcmbjodladflaaGreatDoorGH
import Derived.Test.YtkcmbjodladflaaGreatDoorGI
import Derived.Test.YtkcmbjodladflaaGreatDoorGG
import Derived.Test.YtkcmbjodladflaaGreatDoorGB
import Derived.Test.YtkcmbjodladflaaGreatDoorGN

section
set_option linter.all false
set_option maxRecDepth 100000
namespace Go.Ab
structure Wn where
 kind : Int
 key : ByteArray
@[reducible] def sWn (w : Wn) : AVal := .agg [vInt w.kind, .lit (.string w.key)]
end Go.Ab
namespace Go.Proofs.YtkcmbjodladflaaGreatDoor
open Go.Ab
def wIf (b : Bool) (k : Int) (s : ByteArray) : List Wn := if b = true then [⟨k, s⟩] else []
theorem bO_ (b : Bool) (k : Int) (s : ByteArray) : (wIf b k s).length ≤ 1 := by unfold wIf; split <;> simp
def WC (σ : Store) (o : Nat) (l : List Ent) (t : Bool) (ws : List Wn) : Prop := ∃ b old, σ.heap o = some (.cells [.sl 4 (l.map sEnt) t, b]) ∧ bq_ σ 58 2 (ws.map sWn) b old
theorem WC.set {σ : Store} {o i : Nat} {l : List Ent} {t : Bool} {ws : List Wn} {x : AObj} (h : WC σ o l t ws) (hi : σ.heap i = none) : WC (σ.set i x) o l t ws := by
 obtain ⟨b, old, h1, h2⟩ := h
 exact ⟨b, old, by rw [Store.set_ne _ _ (fun hh => by rw [← hh, h1] at hi; cases hi)]; exact h1, by simpa only [bq_, Store.set_tok] using h2⟩
theorem WC.set2 {σ : Store} {o i : Nat} {l : List Ent} {t : Bool} {ws : List Wn} {x y : AObj} (h : WC σ o l t ws) (hi : σ.heap i = none) : WC ((σ.set i x).set i y) o l t ws := by
 rw [Store.set_set]; exact h.set hi
theorem dM_ {o : Nat} {l : List Ent} {t : Bool} {ws : List Wn} {so : Bool} {kind : Int} {key : ByteArray} {σ : Store} (h : WC σ o l t ws) (hl : ws.length ≤ 1000000) : ao_ Tryz.prog 80 [.ref o 0, vB so, vInt kind, vStr key] σ fun v σ' => v = .tup [] ∧ WC σ' o l t (ws ++ wIf so kind key) ∧ WF o σ σ' := by
 obtain ⟨b, old, h1, h2⟩ := h
 refine aj_ Tryz.func80 rfl Tryz.ntmps80 (congrArg Array.toList Tryz.results80) (by simp only [List.length_cons, List.length_nil]; decide) ?_; simp only [af_, ak_, Nat.reduceAdd]
 refine ab_ ?_
 refine aa_ kr_ ?_
 (refine aL_S rfl rfl v_ ?_)
 refine ac_ ?_
 refine ad_ v_ (fun hc0 => ?_) (fun hc0 => ?_)
 ·replace hc0 := nm_ hc0
  have R := h1
  refine aa_ kr_ ?_
  iterate 8 (refine aL_S rfl rfl v_ ?_)
  refine aw_ rfl rfl rfl g_ g_ rfl rfl h_ c2_ (by decide) ?_
  refine aL_X rfl rfl (cz_ rfl g_ g_ (bq_.of h2 va_) (.inl ⟨⟨_, g_⟩, .inl v_, c_⟩) (by simp; omega) fun k18 hk18 => ?_)
  iterate 2 (refine aL_S rfl rfl v_ ?_)
  refine av_ rfl rfl rfl v_ v_ h_ g_ rfl g_ c_ (by rfl) le_ v_ ?_
  refine ac_ ?_
  refine aP_ v_ (Store.Wk.refl _) ?_
  subst hc0
  have e : ws.map sWn ++ [.agg [vInt kind, vStr key]] = (ws ++ wIf true kind key).map sWn := by simp [wIf]
  rw [e]
  exact ⟨rfl, ⟨_, some k18, Store.set_get .., .inl ⟨k18, rfl, by rw [Store.set_tok]; exact Store.newTok_get .., rfl⟩⟩, WF.put h1 h2 hk18⟩
 ·replace hc0 := nm_ hc0
  refine ah_ ?_
  refine aP_ v_ (Store.Wk.refl _) ?_
  obtain rfl : so = false := by simpa using hc0
  exact ⟨rfl, ⟨b, old, h1, by simpa [wIf] using h2⟩, WF.refl⟩
def keyW (x : Ent) : List Wn := wIf (!bi_ x.key) 8 x.key
theorem cY_ {α : Type} {f : α → List Wn} (h : ∀ x, (f x).length ≤ 1) : ∀ l : List α, (l.flatMap f).length ≤ l.length
 |[] => Nat.le_refl _
 |x :: l => by have := cY_ h l; have := h x; rw [List.flatMap_cons, List.length_append, List.length_cons]; omega
theorem io_ {α β : Type} {f : α → List β} {l : List α} {k : Nat} {x : α} (h : l[k]? = some x) : (l.take (k + 1)).flatMap f = (l.take k).flatMap f ++ f x := by rw [aX_ h, List.flatMap_append]; simp
theorem qy_ {o i : Nat} {σ τ : Store} {l : List Ent} {t : Bool} {ws : List Wn} (h : WC τ o l t ws) (hi : τ.heap i = none) : i ≠ o := fun hh => by obtain ⟨b, old, h1, _⟩ := h; rw [hh, h1] at hi; cases hi
set_option maxHeartbeats 1000000 in
theorem rC_ {o : Nat} {l : List Ent} {t : Bool} {σ : Store} {ws : List Wn} (h : WC σ o l t ws) (hw : ws.length ≤ 100000) (hl : l.length ≤ 100000) (hk : ∀ x ∈ l, x.key.size ≤ 400000) : ao_ Tryz.prog 75 [.ref o 0] σ fun v σ' => v = .tup [] ∧ WC σ' o l t (ws ++ l.flatMap keyW) ∧ WF o σ σ' := by
 obtain ⟨b0, old0, h01, h02⟩ := id h
 refine aj_ Tryz.func75 rfl Tryz.ntmps75 (congrArg Array.toList Tryz.results75) (by simp only [List.length_cons, List.length_nil]; decide) ?_; simp only [af_, ak_, Nat.reduceAdd]
 refine ab_ ?_
 have R := h01
 refine aa_ kr_ ?_
 iterate 6 (refine aL_S rfl rfl v_ ?_)
 refine ac_ ?_
 refine al_ ?_
 refine ap_ (ι := Store × Nat) (fun ⟨τ, k⟩ => l.length - k) (fun ⟨τ, k⟩ => k ≤ l.length ∧ WC τ o l t (ws ++ (l.take k).flatMap keyW) ∧ WF o σ τ) (fun ⟨τ, k⟩ => [(0, .ref o 0), (7, .sl 4 (l.map sEnt) t), (8, vInt l.length), (9, vInt k)]) (fun ⟨τ, k⟩ => τ) (σ, 0) ?_ ?_ ?_ ?_
 ·exact ⟨Nat.zero_le _, by simpa using h, WF.refl⟩
 ·exact cv_
 ·exact Store.Wk.refl _
 rintro ⟨τ, k⟩ ⟨hkl, hC, hF⟩
 simp only [ar_, au_]
 refine ab_ ?_
 refine aa_ kr_ ?_
 (refine aL_S rfl rfl v_ ?_)
 refine ac_ ?_
 refine ab_ ?_
 refine ad_ v_ (fun hc1 => ?_) (fun hc1 => ?_)
 ·replace hc1 := nm_ hc1
  refine ah_ ?_
  refine ab_ ?_
  refine al_ ?_
  refine ab_ ?_
  obtain ⟨x, hx⟩ := aA_ (l := l) (k := k) (by omega)
  have hxk := hk x (List.mem_of_getElem? hx)
  have hle := cY_ (f := keyW) (fun x => bO_ _ _ _) (l.take k)
  rw [List.length_take] at hle
  have R := hx
  refine aa_ kr_ ?_
  iterate 2 (refine aL_S rfl rfl v_ ?_)
  refine aQ_ rfl rfl rfl g_ gl_ fun o3 ho3 => ?_
  repeat (rw [an_] at ho3; obtain ⟨_, ho3⟩ := ho3)
  refine av_ rfl rfl rfl v_ v_ h_ g_ rfl g_ c_ (by rfl) le_ v_ ?_
  refine ac_ ?_
  skip
  have hne := qy_ (σ := σ) hC ho3
  have hC1 := hC.set2 (x := .cells [.lit (.string ⟨#[]⟩), vInt 0, .lit (.string ⟨#[]⟩), .lit (.string ⟨#[]⟩)]) (y := .cells (sEnt x).cells) ho3
  refine aG_ (.op 0 0 (.op 1 0 (.op 2 0 (.op 5 0 (.op 6 0 (.op 3 1 (.op 4 0 (.op 7 2 .nil)))))))) Tryz.mixed kr_ ?_
  iterate 5 (refine dR_S o_ (by rfl) (by rfl) v_ ?_)
  refine dR_X o_ (by rfl) (by rfl) (ae_ (by rfl) (by rfl) (.inr ⟨by rfl, by rfl, by rfl⟩) g_ va_ (eX_ (by omega)) ?_); rintro _ _ ⟨rfl, rfl⟩; refine ⟨sub_, ?_⟩
  (refine dR_S o_ (by rfl) (by rfl) v_ ?_)
  refine dR_T o_ (by rfl) (by rfl) (ae_ (by rfl) (by rfl) (.inr ⟨by rfl, by rfl, by rfl⟩) g_ va_ (dM_ hC1 (by rw [List.length_append]; omega)) ?_); rintro _ τ2 ⟨rfl, hC2, hF2⟩
  refine aL_ ?_
  refine aa_ kr_ ?_
  iterate 2 (refine aL_S rfl rfl v_ ?_)
  refine ac_ ?_
  refine aJ_ (ι := Store × Nat) (i := ⟨τ, k⟩) (τ2, k + 1) ?_ ?_ ?_ ?_
  ·show l.length - (k + 1) < l.length - k; omega
  ·exact ⟨by show k + 1 ≤ l.length; omega, by rw [io_ hx, ← List.append_assoc]; exact hC2, (hF.alloc2 ho3 hne).trans hF2⟩
  ·exact cv_
  ·exact Store.Wk.refl _
 ·replace hc1 := nm_ hc1
  refine ax_ ?_
  refine ag_ ?_
  refine ag_ ?_
  refine aq_ ?_
  refine aP_ v_ (Store.Wk.refl _) ?_
  exact ⟨rfl, by rwa [List.take_of_length_le (by omega)] at hC, hF⟩
end Go.Proofs.YtkcmbjodladflaaGreatDoor
end

section
set_option linter.all false
set_option maxRecDepth 100000
namespace Go.Proofs.YtkcmbjodladflaaGreatDoor
open Go.Ab
theorem rG_ {ow nm : List ByteArray} {σ : Store} {to tn : Bool} (ho : ow.length ≤ 1000) (hn : nm.length ≤ 1000) : ao_ Tryz.prog 133 [.sl 1 (ow.map vStr) to, .sl 1 (nm.map vStr) tn] σ fun v σ' => ∃ σ1, CBp σ1 σ' 1 ((aW_ ow nm).map vInt) v ∧ σ.Sub σ1 := by
 refine aj_ Tryz.func133 rfl Tryz.ntmps133 (congrArg Array.toList Tryz.results133) (by simp only [List.length_cons, List.length_nil]; decide) ?_; simp only [af_, ak_, Nat.reduceAdd]
 refine ab_ ?_
 refine aa_ kr_ ?_
 (refine aL_S rfl rfl v_ ?_)
 refine ac_ ?_
 refine ab_ ?_
 refine aa_ kr_ ?_
 refine aL_X rfl rfl (ea_ rfl fun o11 ho11 => ?_)
 repeat (rw [an_] at ho11; obtain ⟨_, ho11⟩ := ho11)
 (refine aL_S rfl rfl v_ ?_)
 refine ac_ ?_
 refine ab_ ?_
 refine ab_ ?_
 refine aa_ kr_ ?_
 iterate 3 (refine aL_S rfl rfl v_ ?_)
 refine ac_ ?_
 refine al_ ?_
 refine ap_ (ι := Nat × List (ByteArray × Int)) (fun ⟨i, M⟩ => ow.length - i) (fun ⟨i, M⟩ => i ≤ ow.length ∧ ∀ s, getC M s = (cnt (ow.take i) s : Int)) (fun ⟨i, M⟩ => [(1, .sl 1 (nm.map vStr) tn), (5, .map o11), (12, .sl 1 (ow.map vStr) to), (13, vInt ow.length), (14, vInt i)]) (fun ⟨i, M⟩ => (σ.set o11 (.map (kvC M)))) (0, []) ?_ ?_ ?_ ?_
 ·exact ⟨Nat.zero_le _, fun s => rfl⟩
 ·exact cv_
 ·exact Store.Wk.refl _
 rintro ⟨i, M⟩ ⟨h1, h2⟩
 simp only [ar_, au_]
 refine ab_ ?_
 refine aa_ kr_ ?_
 (refine aL_S rfl rfl v_ ?_)
 refine ac_ ?_
 refine ab_ ?_
 refine ad_ v_ (fun hc3 => ?_) (fun hc3 => ?_)
 ·replace hc3 := nm_ hc3
  refine ah_ ?_
  refine ab_ ?_
  refine al_ ?_
  refine ab_ ?_
  have hi : i < ow.length := by omega
  obtain ⟨x, hx⟩ := aA_ hi
  have hl := jg_ (σ := σ.set o11 (.map (kvC M))) (Store.set_get ..) x
  have hb : getC M x ≤ 1000 := by rw [h2]; have := hw_ (ow.take i) x; simp at this; omega
  have hb0 : 0 ≤ getC M x := by rw [h2]; omega
  have R := hx
  refine aa_ kr_ ?_
  iterate 3 (refine aL_S rfl rfl v_ ?_)
  refine ac_ ?_
  have R := hl
  refine aa_ kr_ ?_
  iterate 4 (refine aL_S rfl rfl v_ ?_)
  refine j3_ rfl rfl (cp_ rfl g_ g_ v_ h_ v_ key_ (by exact je_ M) v_ ?_)
  refine ac_ ?_
  rw [iu_, Store.set_set]
  refine aa_ kr_ ?_
  iterate 2 (refine aL_S rfl rfl v_ ?_)
  refine ac_ ?_
  refine aJ_ (ι := Nat × List (ByteArray × Int)) (i := ⟨i, M⟩) (i + 1, putC M x (getC M x + 1)) ?_ ?_ ?_ ?_
  ·show ow.length - (i + 1) < ow.length - i; omega
  ·exact ⟨hi, i0_ h2 hx⟩
  ·exact cv_
  ·exact sub_
 ·replace hc3 := nm_ hc3
  refine ax_ ?_
  refine ag_ ?_
  refine ag_ ?_
  refine aq_ ?_
  refine ab_ ?_
  refine aa_ kr_ ?_
  (refine aL_S rfl rfl v_ ?_)
  refine ac_ ?_
  refine ab_ ?_
  refine ab_ ?_
  refine aa_ kr_ ?_
  iterate 3 (refine aL_S rfl rfl v_ ?_)
  refine ac_ ?_
  refine al_ ?_
  refine ap_ (ι := Store × AVal × Nat) (fun ⟨τ, g, j⟩ => nm.length - j) (fun ⟨τ, g, j⟩ => j ≤ nm.length ∧ CBp (σ.set o11 (.map (kvC M))) τ 1 ((aW_ ow (nm.take j)).map vInt) g) (fun ⟨τ, g, j⟩ => [(5, .map o11), (8, g), (23, .sl 1 (nm.map vStr) tn), (24, vInt nm.length), (25, vInt j)]) (fun ⟨τ, g, j⟩ => τ) (σ.set o11 (.map (kvC M)), vNil, 0) ?_ ?_ ?_ ?_
  ·exact ⟨Nat.zero_le _, .inl ⟨rfl, rfl, rfl⟩⟩
  ·exact cv_
  ·exact Store.Wk.refl _
  rintro ⟨τ, g, j⟩ ⟨h3, hC⟩
  simp only [ar_, au_]
  refine ab_ ?_
  refine aa_ kr_ ?_
  (refine aL_S rfl rfl v_ ?_)
  refine ac_ ?_
  refine ab_ ?_
  refine ad_ v_ (fun hc9 => ?_) (fun hc9 => ?_)
  ·replace hc9 := nm_ hc9
   refine ah_ ?_
   refine ab_ ?_
   refine al_ ?_
   refine ab_ ?_
   have hj : j < nm.length := by omega
   obtain ⟨y, hy⟩ := aA_ hj
   have hl := jg_ (σ := τ) ((CBp.sub hC).heap _ _ (Store.set_get ..)) y
   have hM : getC M y = (cnt ow y : Int) := by rw [h2, List.take_of_length_le (by omega)]
   have hld : aW_ ow (nm.take (j + 1)) = aW_ ow (nm.take j) ++ [(cnt ow y : Int)] := by unfold aW_; rw [List.take_succ, hy, List.map_append]; rfl
   have hlen : (aW_ ow (nm.take j)).length ≤ 1000 := by simp only [aW_, List.length_map, List.length_take]; omega
   have R := hy
   refine aa_ kr_ ?_
   iterate 3 (refine aL_S rfl rfl v_ ?_)
   refine ac_ ?_
   have R := And.intro hl hM
   refine aa_ kr_ ?_
   iterate 4 (refine aL_S rfl rfl v_ ?_)
   refine aw_ rfl rfl rfl g_ g_ rfl rfl h_ c2_ (by decide) ?_
   refine aL_X rfl rfl (bz_ rfl g_ g_ hC va_ (fun y hy => by obtain ⟨s, _, rfl⟩ := List.mem_map.1 hy; rfl) va_ c_ (by simp only [List.length_map, List.length_singleton] at *; omega) fun a' τ2 hC2 => ?_)
   (refine aL_S rfl rfl v_ ?_)
   refine ac_ ?_
   refine aa_ kr_ ?_
   iterate 2 (refine aL_S rfl rfl v_ ?_)
   refine ac_ ?_
   refine aJ_ (ι := Store × AVal × Nat) (i := ⟨τ, g, j⟩) (τ2, a', j + 1) ?_ ?_ ?_ ?_
   ·show nm.length - (j + 1) < nm.length - j; omega
   ·exact ⟨hj, by rw [hld, List.map_append]; exact hC2⟩
   ·exact cv_
   ·exact Store.Wk.refl _
  ·replace hc9 := nm_ hc9
   refine ax_ ?_
   refine ag_ ?_
   refine ag_ ?_
   refine aq_ ?_
   refine ab_ ?_
   obtain rfl : j = nm.length := by omega
   rw [List.take_length] at hC
   refine aa_ kr_ ?_
   iterate 2 (refine aL_S rfl rfl v_ ?_)
   refine ac_ ?_
   refine am_ ?_
   refine ai_ v_ (Store.Wk.refl _) ?_
   exact ⟨_, hC, ⟨fun i x hx => by rw [Store.set_ne _ _ (fun hh => by rw [hh, ho11] at hx; cases hx)]; exact hx, fun u n hu => hu⟩⟩
def maxL : List Int → Int
 |[] => 0
 |x :: l => l.foldl max x
def minL : List Int → Int
 |[] => 0
 |x :: l => l.foldl min x
theorem lO_ {l : List Int} {x : Int} (h : l ≠ []) : maxL (l ++ [x]) = max (maxL l) x := by
 cases l with
 |nil => exact absurd rfl h
 |cons y l => simp [maxL]
theorem lR_ {l : List Int} {x : Int} (h : l ≠ []) : minL (l ++ [x]) = min (minL l) x := by
 cases l with
 |nil => exact absurd rfl h
 |cons y l => simp [minL]
theorem jh_ : ∀ {l : List Int}, l ≠ [] → maxL l ∈ l := fun {l} h => by
 cases l with
 |nil => exact absurd rfl h
 |cons y l =>
  have key : ∀ (l : List Int) (a : Int), l.foldl max a = a ∨ l.foldl max a ∈ l := by
   intro l
   induction l with
   |nil => intro a; exact .inl rfl
   |cons z l ih =>
    intro a
    rw [List.foldl_cons]
    rcases ih (max a z) with h | h
    ·rw [h]
     by_cases hz : a ≤ z
     ·right; rw [Int.max_eq_right hz]; exact .head _
     ·left; exact Int.max_eq_left (by omega)
    ·exact .inr (.tail _ h)
  rcases key l y with h | h
  ·rw [maxL, h]; exact .head _
  ·exact .tail _ h
theorem jn_ : ∀ {l : List Int}, l ≠ [] → minL l ∈ l := fun {l} h => by
 cases l with
 |nil => exact absurd rfl h
 |cons y l =>
  have key : ∀ (l : List Int) (a : Int), l.foldl min a = a ∨ l.foldl min a ∈ l := by
   intro l
   induction l with
   |nil => intro a; exact .inl rfl
   |cons z l ih =>
    intro a
    rw [List.foldl_cons]
    rcases ih (min a z) with h | h
    ·rw [h]
     by_cases hz : z ≤ a
     ·right; rw [Int.min_eq_right hz]; exact .head _
     ·left; exact Int.min_eq_left (by omega)
    ·exact .inr (.tail _ h)
  rcases key l y with h | h
  ·rw [minL, h]; exact .head _
  ·exact .tail _ h
theorem lP_ {zs : List Int} {o n : Nat} {cs : List AVal} {σ : Store} (hn : zs.length = n) (ho : σ.heap o = some (.cells cs)) (hcs : cs.take zs.length = zs.map vInt) (h0 : 1 ≤ zs.length) (hl : zs.length ≤ 100000) : ao_ Tryz.prog 134 [.msl o 1 0 n] σ fun v σ' => v = vInt (maxL zs) ∧ σ = σ' := by
 subst hn
 have hcl : zs.length ≤ cs.length := by have := congrArg List.length hcs; rw [List.length_take, List.length_map] at this; omega
 have hget : ∀ (k : Nat) (x : Int), zs[k]? = some x → cs[k]? = some (vInt x) := fun k x hx => by
  have hk := (List.getElem?_eq_some_iff.1 hx).1
  have := congrArg (·[k]?) hcs
  simp only [List.getElem?_take, List.getElem?_map, hx, Option.map_some] at this
  rwa [if_pos hk] at this
 obtain ⟨x0, hx0⟩ := aA_ (l := zs) (k := 0) (by omega)
 have hc0 := hget 0 x0 hx0
 have h1 : maxL (zs.take 1) = x0 := by
  cases zs with
  |nil => simp at h0
  |cons y l => simp at hx0; subst hx0; rfl
 refine aj_ Tryz.func134 rfl Tryz.ntmps134 (congrArg Array.toList Tryz.results134) (by simp only [List.length_cons, List.length_nil]; decide) ?_; simp only [af_, ak_, Nat.reduceAdd]
 refine ab_ ?_
 refine aa_ kr_ ?_
 (refine aL_S rfl rfl v_ ?_)
 refine ac_ ?_
 refine ab_ ?_
 refine ab_ ?_
 refine aa_ kr_ ?_
 iterate 3 (refine aL_S rfl rfl v_ ?_)
 refine ac_ ?_
 refine ad_ v_ (fun hc1 => ?_) (fun hc1 => ?_)
 ·replace hc1 := nm_ hc1
  omega
 ·replace hc1 := nm_ hc1
  refine ah_ ?_
  refine ab_ ?_
  have R := And.intro ho hc0
  refine aa_ kr_ ?_
  iterate 4 (refine aL_S rfl rfl v_ ?_)
  refine ac_ ?_
  refine ab_ ?_
  refine ab_ ?_
  refine aa_ kr_ ?_
  (refine aL_S rfl rfl v_ ?_)
  refine ac_ ?_
  refine al_ ?_
  refine ap_ (ι := Nat) (fun i => zs.length - i) (fun i => 1 ≤ i ∧ i ≤ zs.length) (fun i => [(0, .msl o 1 0 zs.length), (3, vInt (maxL (zs.take i))), (4, vInt i)]) (fun i => σ) 1 ?_ ?_ ?_ ?_
  ·exact ⟨Nat.le_refl _, h0⟩
  ·have R := h1; exact cv_
  ·exact sub_
  rintro i ⟨hi1, hi⟩
  simp only [ar_, au_]
  refine ab_ ?_
  refine ab_ ?_
  refine aa_ kr_ ?_
  iterate 4 (refine aL_S rfl rfl v_ ?_)
  refine ac_ ?_
  refine ad_ v_ (fun hc5 => ?_) (fun hc5 => ?_)
  ·replace hc5 := nm_ hc5
   refine ah_ ?_
   refine ab_ ?_
   refine al_ ?_
   obtain ⟨x, hx⟩ := aA_ (l := zs) (k := i) (by omega)
   have hcx := hget i x hx
   have hst : maxL (zs.take (i + 1)) = max (maxL (zs.take i)) x := by rw [aX_ hx, lO_ (by intro h; have := congrArg List.length h; rw [List.length_take, List.length_nil] at this; omega)]
   have R := And.intro ho hcx
   refine aa_ kr_ ?_
   iterate 7 (refine aL_S rfl rfl v_ ?_)
   refine ac_ ?_
   refine aa_ kr_ ?_
   iterate 3 (refine aL_S rfl rfl v_ ?_)
   refine ac_ ?_
   refine aJ_ (ι := Nat) (i := i) (i + 1) ?_ ?_ ?_ ?_
   ·omega
   ·exact ⟨by omega, by omega⟩
   ·have R := hst; exact cv_
   ·exact sub_
  ·replace hc5 := nm_ hc5
   refine ax_ ?_
   refine ag_ ?_
   refine ag_ ?_
   refine aq_ ?_
   refine ab_ ?_
   obtain rfl : i = zs.length := by omega
   rw [List.take_length]
   refine aa_ kr_ ?_
   iterate 2 (refine aL_S rfl rfl v_ ?_)
   refine ac_ ?_
   refine am_ ?_
   refine ai_ (σ' := σ) v_ sub_ ?_
   exact ⟨rfl, rfl⟩
theorem lS_ {zs : List Int} {o n : Nat} {cs : List AVal} {σ : Store} (hn : zs.length = n) (ho : σ.heap o = some (.cells cs)) (hcs : cs.take zs.length = zs.map vInt) (h0 : 1 ≤ zs.length) (hl : zs.length ≤ 100000) : ao_ Tryz.prog 135 [.msl o 1 0 n] σ fun v σ' => v = vInt (minL zs) ∧ σ = σ' := by
 subst hn
 have hcl : zs.length ≤ cs.length := by have := congrArg List.length hcs; rw [List.length_take, List.length_map] at this; omega
 have hget : ∀ (k : Nat) (x : Int), zs[k]? = some x → cs[k]? = some (vInt x) := fun k x hx => by
  have hk := (List.getElem?_eq_some_iff.1 hx).1
  have := congrArg (·[k]?) hcs
  simp only [List.getElem?_take, List.getElem?_map, hx, Option.map_some] at this
  rwa [if_pos hk] at this
 obtain ⟨x0, hx0⟩ := aA_ (l := zs) (k := 0) (by omega)
 have hc0 := hget 0 x0 hx0
 have h1 : minL (zs.take 1) = x0 := by
  cases zs with
  |nil => simp at h0
  |cons y l => simp at hx0; subst hx0; rfl
 refine aj_ Tryz.func135 rfl Tryz.ntmps135 (congrArg Array.toList Tryz.results135) (by simp only [List.length_cons, List.length_nil]; decide) ?_; simp only [af_, ak_, Nat.reduceAdd]
 refine ab_ ?_
 refine aa_ kr_ ?_
 (refine aL_S rfl rfl v_ ?_)
 refine ac_ ?_
 refine ab_ ?_
 refine ab_ ?_
 refine aa_ kr_ ?_
 iterate 3 (refine aL_S rfl rfl v_ ?_)
 refine ac_ ?_
 refine ad_ v_ (fun hc1 => ?_) (fun hc1 => ?_)
 ·replace hc1 := nm_ hc1
  omega
 ·replace hc1 := nm_ hc1
  refine ah_ ?_
  refine ab_ ?_
  have R := And.intro ho hc0
  refine aa_ kr_ ?_
  iterate 4 (refine aL_S rfl rfl v_ ?_)
  refine ac_ ?_
  refine ab_ ?_
  refine ab_ ?_
  refine aa_ kr_ ?_
  (refine aL_S rfl rfl v_ ?_)
  refine ac_ ?_
  refine al_ ?_
  refine ap_ (ι := Nat) (fun i => zs.length - i) (fun i => 1 ≤ i ∧ i ≤ zs.length) (fun i => [(0, .msl o 1 0 zs.length), (3, vInt (minL (zs.take i))), (4, vInt i)]) (fun i => σ) 1 ?_ ?_ ?_ ?_
  ·exact ⟨Nat.le_refl _, h0⟩
  ·have R := h1; exact cv_
  ·exact sub_
  rintro i ⟨hi1, hi⟩
  simp only [ar_, au_]
  refine ab_ ?_
  refine ab_ ?_
  refine aa_ kr_ ?_
  iterate 4 (refine aL_S rfl rfl v_ ?_)
  refine ac_ ?_
  refine ad_ v_ (fun hc5 => ?_) (fun hc5 => ?_)
  ·replace hc5 := nm_ hc5
   refine ah_ ?_
   refine ab_ ?_
   refine al_ ?_
   obtain ⟨x, hx⟩ := aA_ (l := zs) (k := i) (by omega)
   have hcx := hget i x hx
   have hst : minL (zs.take (i + 1)) = min (minL (zs.take i)) x := by rw [aX_ hx, lR_ (by intro h; have := congrArg List.length h; rw [List.length_take, List.length_nil] at this; omega)]
   have R := And.intro ho hcx
   refine aa_ kr_ ?_
   iterate 7 (refine aL_S rfl rfl v_ ?_)
   refine ac_ ?_
   refine aa_ kr_ ?_
   iterate 3 (refine aL_S rfl rfl v_ ?_)
   refine ac_ ?_
   refine aJ_ (ι := Nat) (i := i) (i + 1) ?_ ?_ ?_ ?_
   ·omega
   ·exact ⟨by omega, by omega⟩
   ·have R := hst; exact cv_
   ·exact sub_
  ·replace hc5 := nm_ hc5
   refine ax_ ?_
   refine ag_ ?_
   refine ag_ ?_
   refine aq_ ?_
   refine ab_ ?_
   obtain rfl : i = zs.length := by omega
   rw [List.take_length]
   refine aa_ kr_ ?_
   iterate 2 (refine aL_S rfl rfl v_ ?_)
   refine ac_ ?_
   refine am_ ?_
   refine ai_ (σ' := σ) v_ sub_ ?_
   exact ⟨rfl, rfl⟩
end Go.Proofs.YtkcmbjodladflaaGreatDoor
end

section
set_option linter.all false
set_option maxRecDepth 100000
namespace Go.Proofs.YtkcmbjodladflaaGreatDoor
open Go.Ab
theorem qs_ {σ τ : Store} {i k : Nat} {x y : AObj} {old : Option Nat} {p : TypeId × Nat} (h : σ.Sub τ) (hi : τ.heap i = none) (hold : ∀ j, old = some j → σ.tok j = none) (hk : τ.tok k = none) : σ.Sub (((τ.set i x).set i y).newTok old k p) := by
 refine ⟨fun j z hz => ?_, fun t n ht => ?_⟩
 ·have h1 := h.heap j z hz
  have hne : j ≠ i := fun hh => by rw [hh, hi] at h1; cases h1
  show ((τ.set i x).set i y).heap j = _
  rw [Store.set_ne _ _ hne, Store.set_ne _ _ hne]; exact h1
 ·have h1 := h.tok t n ht
  have hkt : t ≠ k := fun hh => by rw [hh, hk] at h1; cases h1
  simp only [Store.newTok, Store.set_tok]
  rw [if_neg hkt, if_neg (fun hh => by have := hold t hh.symm; rw [ht] at this; cases this)]
  exact h1
theorem WC.sub {σ τ : Store} {o : Nat} {l : List Ent} {t : Bool} {ws : List Wn} (h : WC σ o l t ws) (hs : σ.Sub τ) : WC τ o l t ws := by
 obtain ⟨b, old, h1, h2⟩ := h
 refine ⟨b, old, hs.heap _ _ h1, ?_⟩
 rcases h2 with ⟨k, rfl, h3, h4⟩ | h2
 ·exact .inl ⟨k, rfl, hs.tok _ _ h3, h4⟩
 ·exact .inr h2
theorem WF.ofSub {σ τ : Store} {o : Nat} {l : List Ent} {t : Bool} {ws : List Wn} (h : WC σ o l t ws) (hs : σ.Sub τ) : WF o σ τ := by
 obtain ⟨b, old, h1, h2⟩ := h
 refine ⟨fun i x _ hx => hs.heap _ _ hx, fun u n hu hn => ⟨hs.tok _ _ hu, fun ⟨a, sz, m, hh⟩ => hn ⟨a, sz, m, ?_⟩⟩⟩
 rw [hs.heap _ _ h1] at hh
 rw [h1]; exact hh
def ownW (l : List Ent) (k : Nat) : List Wn := wIf (decide (¬ (ownK l k).size = 0) && !hasT (nmsS l) (ownK l k)) 1 (br_ k)
theorem p2_ {l : List Ent} (k : Nat) : (ownK l k).size ≤ 16 := by
 unfold ownK
 split
 ·rename_i h; exact (eB_ h).2
 ·exact Nat.zero_le _
theorem ko_ (l : List Ent) (n : Nat) : (aF_ l n).length = n := by simp [aF_]
theorem kn_ (l : List Ent) {n k : Nat} (hk : k < n) : (aF_ l n)[k]? = some (ownK l k) := by simp [aF_, hk]
theorem WC.ext {σ τ : Store} {o : Nat} {l : List Ent} {t : Bool} {ws : List Wn} (h : WC σ o l t ws) (h1 : τ.heap o = σ.heap o) (h2 : ∀ k, τ.tok k = σ.tok k) : WC τ o l t ws := by
 obtain ⟨b, old, g1, g2⟩ := h
 refine ⟨b, old, by rw [h1]; exact g1, ?_⟩
 rcases g2 with ⟨k, e1, e2, e3⟩ | g2
 ·exact .inl ⟨k, e1, by rw [h2]; exact e2, e3⟩
 ·exact .inr g2
def hc_ (L : List Int) : Bool := decide (0 < L.length) && decide (1 < maxL (L ++ [0]) - minL (L ++ [16]))
def evnW (l : List Ent) : List Wn := wIf (hc_ (aW_ (aF_ l 16) (nmsS l))) 2 bH_
theorem lf_ (l : List Ent) : (evnW l).length ≤ 1 := bO_ _ _ _
theorem ki_ {P : Program} {ops : Array Oper} {Kk : Env → Store → Prop} {l : List Oper} {e : Env} {σ : Store} (h : ∀ S, S = σ → a1_ P ops Kk l e S) : a1_ P ops Kk l e σ := h σ rfl
theorem lu_ (L : List Int) : flat (L.map vInt) = L.map vInt := by
 unfold flat
 induction L with
 |nil => rfl
 |cons x L ih => rw [List.map_cons, List.flatMap_cons, ih]; rfl
theorem pH_ {σ1 S1 : Store} {ol o1 : Nat} {L : List Int} {c : List AVal} (hS : S1 = (σ1.set ol (.cells (L.map vInt))).set o1 (.cells (L.map vInt ++ c))) (h : o1 = ol ∨ (σ1.set ol (.cells (L.map vInt))).heap o1 = none) : ∃ cs, S1.heap ol = some (.cells cs) ∧ cs.take L.length = L.map vInt ∧ L.length ≤ cs.length := by
 rcases h with rfl | h
 ·exact ⟨_, by rw [hS]; exact Store.set_get .., by simp, by simp⟩
 ·have hne : ol ≠ o1 := fun hh => by rw [← hh, Store.set_get] at h; cases h
  exact ⟨L.map vInt, by rw [hS, Store.set_ne _ _ hne]; exact Store.set_get .., by rw [List.take_of_length_le (by simp)], by simp⟩
theorem pI_ {σ1 S1 : Store} {o ol o1 : Nat} {X Y Z : AObj} (hS : S1 = (σ1.set ol X).set o1 Y) (h : o1 = ol ∨ (σ1.set ol X).heap o1 = none) (hol : σ1.heap ol = none) (ho : σ1.heap o = some Z) : S1.heap o = some Z ∧ (∀ k, S1.tok k = σ1.tok k) ∧ ∀ i x, i ≠ ol → σ1.heap i = some x → S1.heap i = some x := by
 have key : ∀ i x, i ≠ ol → σ1.heap i = some x → S1.heap i = some x := fun i x hi hx => by
  have h1 : (σ1.set ol X).heap i = some x := by rw [Store.set_ne _ _ hi]; exact hx
  have h2 : i ≠ o1 := fun hh => by
   rcases h with rfl | h
   ·exact hi hh
   ·rw [hh, h] at h1; cases h1
  rw [hS, Store.set_ne _ _ h2]; exact h1
 exact ⟨key o Z (fun hh => by rw [hh, hol] at ho; cases ho) ho, fun k => by rw [hS, Store.set_tok, Store.set_tok], key⟩
theorem pJ_ {S1 S2 : Store} {ol o2 : Nat} {Y : AObj} (hS2 : S2 = (S1.delO (some ol)).set o2 Y) (ho2 : S1.heap o2 = none) {i : Nat} {x : AObj} (hi : i ≠ ol) (hx : S1.heap i = some x) : S2.heap i = some x := by
 rw [hS2, Store.set_ne _ _ (fun hh => by rw [hh, ho2] at hx; cases hx)]
 show (S1.del ol).heap i = _
 rw [Store.del_ne _ hi]; exact hx
theorem pG_ {σ1 S1 S2 : Store} {o ol o2 : Nat} {Y Z : AObj} (hS2 : S2 = (S1.delO (some ol)).set o2 Y) (ho2 : S1.heap o2 = none) (hol : σ1.heap ol = none) (ho : σ1.heap o = some Z) (h : S1.heap o = some Z) : S2.heap o = some Z := pJ_ hS2 ho2 (fun hh => by rw [hh, hol] at ho; cases ho) h
theorem pF_ {σ1 S1 S2 : Store} {o ol o2 : Nat} {Y Z : AObj} (hS2 : S2 = (S1.delO (some ol)).set o2 Y) (ho2 : S1.heap o2 = none) (hol : σ1.heap ol = none) (ho : σ1.heap o = some Z) (h : S1.heap o = some Z ∧ (∀ k, S1.tok k = σ1.tok k) ∧ ∀ i x, i ≠ ol → σ1.heap i = some x → S1.heap i = some x) : WF o σ1 S2 := by
 have hne : o ≠ ol := fun hh => by rw [hh, hol] at ho; cases ho
 refine ⟨fun i x _ hx => ?_, fun t n ht hn => ⟨by rw [hS2]; show S1.tok t = _; rw [h.2.1]; exact ht, fun ⟨a, sz, l, hh⟩ => hn ⟨a, sz, l, ?_⟩⟩⟩
 ·have hi : i ≠ ol := fun hh => by rw [hh, hol] at hx; cases hx
  exact pJ_ hS2 ho2 hi (h.2.2 i x hi hx)
 ·rw [pJ_ hS2 ho2 hne h.1] at hh
  rw [ho]; exact hh
theorem lK_ {ow nm : List ByteArray} : ∀ a ∈ aW_ ow nm, 0 ≤ a ∧ a ≤ ow.length := fun a h => by
 unfold aW_ at h
 obtain ⟨s, _, rfl⟩ := List.mem_map.1 h
 have := hw_ ow s
 omega
theorem iO_ {L : List Int} (h : decide ((0 : Int) < (L.length : Int)) = false) : hc_ L = false := by
 rw [hc_, show decide (0 < L.length) = decide ((0 : Int) < (L.length : Int)) from decide_eq_decide.2 (by omega), h]; rfl
theorem hd_ {L : List Int} (h : decide ((0 : Int) < (L.length : Int)) = true) : hc_ L = decide (1 < maxL (L ++ [0]) - minL (L ++ [16])) := by
 rw [hc_, show decide (0 < L.length) = decide ((0 : Int) < (L.length : Int)) from decide_eq_decide.2 (by omega), h]; rfl
theorem gt_ {L : List Int} {c : Int} (h : ∀ a ∈ L, 0 ≤ a ∧ a ≤ 16) (hc : 0 ≤ c ∧ c ≤ 16) : (0 ≤ maxL (L ++ [c]) ∧ maxL (L ++ [c]) ≤ 16) ∧ 0 ≤ minL (L ++ [c]) ∧ minL (L ++ [c]) ≤ 16 := by
 have key : ∀ a ∈ L ++ [c], 0 ≤ a ∧ a ≤ 16 := fun a ha => by
  rcases List.mem_append.1 ha with ha | ha
  ·exact h a ha
  ·rw [List.mem_singleton.1 ha]; exact hc
 exact ⟨key _ (jh_ (by simp)), key _ (jn_ (by simp))⟩
set_option maxHeartbeats 1000000 in
theorem nJ_ {o : Nat} {l : List Ent} {t : Bool} {σ : Store} {ws : List Wn} (h : WC σ o l t ws) (hw : ws.length ≤ 100000) (hl : l.length ≤ 1000) (hs : ∀ x ∈ l, EntSm x) (hks : ∀ x ∈ l, x.key.size ≤ 400000 ∧ x.value.size ≤ 400000) : ao_ Tryz.prog 76 [.ref o 0] σ fun v σ' => v = .tup [] ∧ WC σ' o l t (ws ++ ((List.range 16).flatMap (ownW l) ++ evnW l)) ∧ WF o σ σ' := by
 obtain ⟨b0, old0, h01, h02⟩ := id h
 have hml := dm_ l
 have hnl : (nmsS l).length = (bT_ l).length := by simp [nmsS]
 obtain ⟨ms, hms⟩ : ∃ ms, bT_ l = ms := ⟨_, rfl⟩
 have hmsl : ms.length ≤ 1000 := by rw [← hms]; omega
 have hnm : nmsS l = ms.map Mbr.name := by unfold nmsS; rw [hms]
 obtain ⟨ow, how⟩ : ∃ ow, aF_ l 16 = ow := ⟨_, rfl⟩
 have howl : ow.length = 16 := by rw [← how, ko_]
 have howi : (ow.length : Int) = 16 := by omega
 refine aj_ Tryz.func76 rfl Tryz.ntmps76 (congrArg Array.toList Tryz.results76) (by simp only [List.length_cons, List.length_nil]; decide) ?_; simp only [af_, ak_, Nat.reduceAdd]
 refine ab_ ?_
 refine aa_ kr_ ?_
 (refine aL_S rfl rfl v_ ?_)
 refine ac_ ?_
 refine ab_ ?_
 refine ab_ ?_
 have R := h01
 refine aa_ kr_ ?_
 iterate 4 (refine aL_S rfl rfl v_ ?_)
 refine aL_X rfl rfl (ae_ rfl rfl (.inr ⟨rfl, rfl, rfl⟩) g_ va_ (bn_ (by omega) hs hks) ?_); rintro _ _ ⟨rfl, rfl⟩
 rw [hms]
 iterate 2 (refine aL_S rfl rfl v_ ?_)
 refine ac_ ?_
 refine al_ ?_
 refine ap_ (ι := Store × AVal × Option Nat × Nat) (fun ⟨τ, g, old, i⟩ => ms.length - i) (fun ⟨τ, g, old, i⟩ => i ≤ ms.length ∧ σ.Sub τ ∧ bq_ τ 9 1 (((ms.take i).map Mbr.name).map vStr) g old ∧ ∀ j, old = some j → σ.tok j = none) (fun ⟨τ, g, old, i⟩ => [(0, .ref o 0), (2, g), (13, .sl 4 (ms.map sMbr) false), (14, vInt ms.length), (15, vInt i)]) (fun ⟨τ, g, old, i⟩ => τ) (σ, vNil, none, 0) ?_ ?_ ?_ ?_
 ·exact ⟨Nat.zero_le _, .refl _, .inr ⟨rfl, rfl, rfl⟩, fun j h => by cases h⟩
 ·exact cv_
 ·exact Store.Wk.refl _
 rintro ⟨τ, g, old, i⟩ ⟨hi, hS, hN, hO⟩
 simp only [ar_, au_]
 refine ab_ ?_
 refine aa_ kr_ ?_
 (refine aL_S rfl rfl v_ ?_)
 refine ac_ ?_
 refine ab_ ?_
 refine ad_ v_ (fun hc2 => ?_) (fun hc2 => ?_)
 ·replace hc2 := nm_ hc2
  refine ah_ ?_
  refine ab_ ?_
  refine al_ ?_
  refine ab_ ?_
  obtain ⟨m, hmi⟩ := aA_ (l := ms) (k := i) (by omega)
  have hil : ((ms.take i).map Mbr.name).length ≤ 1000 := by rw [List.length_map, List.length_take]; omega
  have R := hmi
  refine aa_ kr_ ?_
  iterate 2 (refine aL_S rfl rfl v_ ?_)
  refine aQ_ rfl rfl rfl g_ gl_ fun o4 ho4 => ?_
  repeat (rw [an_] at ho4; obtain ⟨_, ho4⟩ := ho4)
  refine av_ rfl rfl rfl v_ v_ h_ g_ rfl g_ c_ (by rfl) le_ v_ ?_
  refine ac_ ?_
  skip
  have hN2 : bq_ ((τ.set o4 (.cells (sMbr d1_).cells)).set o4 (.cells (sMbr m).cells)) 9 1 (((ms.take i).map Mbr.name).map vStr) g old := by simpa only [bq_, Store.set_tok] using hN
  refine aa_ kr_ ?_
  iterate 3 (refine aL_S rfl rfl v_ ?_)
  refine aw_ rfl rfl rfl g_ g_ rfl rfl h_ c2_ (by decide) ?_
  refine aL_X rfl rfl (cz_ rfl g_ g_ (bq_.of hN2 va_) (.inl ⟨⟨_, g_⟩, .inl v_, c_⟩) (by simp only [List.length_map, List.length_singleton] at *; omega) fun k23 hk23 => ?_)
  have hk23' : τ.tok k23 = none := by simpa only [Store.set_tok] using hk23
  (refine aL_S rfl rfl v_ ?_)
  refine ac_ ?_
  refine aa_ kr_ ?_
  iterate 2 (refine aL_S rfl rfl v_ ?_)
  refine ac_ ?_
  refine aJ_ (ι := Store × AVal × Option Nat × Nat) (i := ⟨τ, g, old, i⟩) (((τ.set o4 (.cells (sMbr d1_).cells)).set o4 (.cells (sMbr m).cells)).newTok old k23 (9, 1), .own k23 1 (((ms.take i).map Mbr.name).map vStr ++ [vStr m.name]), some k23, i + 1) ?_ ?_ ?_ ?_
  ·show ms.length - (i + 1) < ms.length - i; omega
  ·exact ⟨by show i + 1 ≤ ms.length; omega, qs_ hS ho4 hO hk23', .inl ⟨k23, by rw [aX_ hmi]; simp, Store.newTok_get .., rfl⟩, fun j hj => by obtain rfl := Option.some.inj hj; cases hh : σ.tok k23 with | none => rfl | some z => rw [hS.tok _ _ hh] at hk23'; cases hk23'⟩
  ·exact cv_
  ·exact Store.Wk.refl _
 ·replace hc2 := nm_ hc2
  refine ax_ ?_
  refine ag_ ?_
  refine ag_ ?_
  refine aq_ ?_
  refine ab_ ?_
  obtain rfl : i = ms.length := by omega
  rw [List.take_length, ← hnm] at hN
  have hC := h.sub hS
  have hF0 := WF.ofSub h hS
  obtain ⟨b1, old1, h11, h12⟩ := id hC
  have hgw : Wk g (.sl 1 ((nmsS l).map vStr) false) := bq_.wk hN
  have R := h11
  refine aa_ kr_ ?_
  iterate 4 (refine aL_S rfl rfl v_ ?_)
  refine aL_X rfl rfl (ae_ rfl rfl (.inr ⟨rfl, rfl, rfl⟩) g_ va_ (ju_ (n := 16) (by decide) (by decide) (by omega) hs) ?_); rintro _ _ ⟨rfl, rfl⟩
  rw [how]
  (refine aL_S rfl rfl v_ ?_)
  refine ac_ ?_
  refine ab_ ?_
  refine ab_ ?_
  refine aa_ kr_ ?_
  iterate 3 (refine aL_S rfl rfl v_ ?_)
  refine ac_ ?_
  refine al_ ?_
  refine ap_ (ι := Store × Nat) (fun ⟨υ, k⟩ => 16 - k) (fun ⟨υ, k⟩ => k ≤ 16 ∧ WC υ o l t (ws ++ (List.range k).flatMap (ownW l)) ∧ WF o σ υ) (fun ⟨υ, k⟩ => [(0, .ref o 0), (2, g), (5, .sl 1 (ow.map vStr) false), (30, .sl 1 (ow.map vStr) false), (31, vInt 16), (32, vInt k)]) (fun ⟨υ, k⟩ => υ) (τ, 0) ?_ ?_ ?_ ?_
  ·exact ⟨Nat.zero_le _, by simpa using hC, hF0⟩
  ·have R := howi; exact cv_
  ·exact Store.Wk.refl _
  rintro ⟨υ, k⟩ ⟨hk, hC2, hF2⟩
  simp only [ar_, au_]
  refine ab_ ?_
  refine aa_ kr_ ?_
  (refine aL_S rfl rfl v_ ?_)
  refine ac_ ?_
  refine ab_ ?_
  refine ad_ v_ (fun hc8 => ?_) (fun hc8 => ?_)
  ·replace hc8 := nm_ hc8
   refine ah_ ?_
   refine ab_ ?_
   refine al_ ?_
   refine ab_ ?_
   have hok : ow[k]? = some (ownK l k) := by rw [← how]; exact kn_ l (by omega)
   have hoz := p2_ (l := l) k
   have ho0 := ne0 (ownK l k)
   have hwl : ((List.range k).flatMap (ownW l)).length ≤ 16 := by have := cY_ (f := ownW l) (fun x => bO_ _ _ _) (List.range k); rw [List.length_range] at this; omega
   have R := hok
   refine aa_ kr_ ?_
   iterate 5 (refine aL_S rfl rfl v_ ?_)
   refine ac_ ?_
   have R := ho0
   refine aa_ kr_ ?_
   iterate 4 (refine aL_S rfl rfl v_ ?_)
   refine aC_ rfl rfl v_ rfl vg_ ?_
   refine aC_ rfl rfl v_ rfl vg_ ?_
   refine b8_ rfl rfl v_ rfl (fun hb => aK_ (by rfl) (by rfl) (.inr ⟨by rfl, by rfl, by rfl⟩) g_ cg_ (ao_.wkA (args := [g, vStr (ownK l k)]) (cs_ (l := nmsS l) (x := ownK l k) (t := false) (by omega)) rfl (fun j hj hj' => by match j, hj with | 0, _ => exact hgw | 1, _ => exact .refl _))) ?_
   refine aC_ rfl rfl v_ rfl vg_ ?_
   iterate 2 (refine aL_S rfl rfl v_ ?_)
   refine aL_X rfl rfl (ae_ rfl rfl (.inr ⟨rfl, rfl, rfl⟩) g_ va_ (fR_ (by omega)) ?_); rintro _ _ ⟨rfl, rfl⟩
   refine aL_X rfl rfl (ae_ rfl rfl (.inr ⟨rfl, rfl, rfl⟩) g_ va_ (dM_ hC2 (by rw [List.length_append]; omega)) ?_); rintro _ υ2 ⟨rfl, hC3, hF3⟩
   refine ac_ ?_
   refine aa_ kr_ ?_
   iterate 2 (refine aL_S rfl rfl v_ ?_)
   refine ac_ ?_
   refine aJ_ (ι := Store × Nat) (i := ⟨υ, k⟩) (υ2, k + 1) ?_ ?_ ?_ ?_
   ·show 16 - (k + 1) < 16 - k; omega
   ·exact ⟨by show k + 1 ≤ 16; omega, by rw [List.range_succ, List.flatMap_append]; simpa [ownW] using hC3, hF2.trans hF3⟩
   ·exact cv_
   ·exact Store.Wk.refl _
  ·replace hc8 := nm_ hc8
   refine ax_ ?_
   refine ag_ ?_
   refine ag_ ?_
   refine aq_ ?_
   refine ab_ ?_
   obtain rfl : k = 16 := by omega
   obtain ⟨L, hL⟩ : ∃ L, aW_ ow (nmsS l) = L := ⟨_, rfl⟩
   have hLall : ∀ a ∈ L, 0 ≤ a ∧ a ≤ 16 := fun a ha => by have := lK_ (ow := ow) (nm := nmsS l) a (hL ▸ ha); omega
   have hLl : L.length ≤ 1000 := by rw [← hL]; simp only [aW_, List.length_map]; omega
   have hev : evnW l = wIf (hc_ L) 2 bH_ := by unfold evnW; rw [how, hL]
   have hwl : ((List.range 16).flatMap (ownW l)).length ≤ 16 := by have := cY_ (f := ownW l) (fun x => bO_ _ _ _) (List.range 16); rwa [List.length_range] at this
   obtain ⟨W, hW⟩ : ∃ W, ws ++ (List.range 16).flatMap (ownW l) = W := ⟨_, rfl⟩
   have hWl : W.length ≤ 200000 := by rw [← hW, List.length_append]; omega
   have hgoal : ws ++ ((List.range 16).flatMap (ownW l) ++ evnW l) = W ++ wIf (hc_ L) 2 bH_ := by rw [← List.append_assoc, hW, hev]
   rw [hgoal]
   rw [hW] at hC2
   refine aa_ kr_ ?_
   iterate 2 (refine aL_S rfl rfl v_ ?_)
   refine aL_X rfl rfl (ae_ rfl rfl (.inr ⟨rfl, rfl, rfl⟩) g_ va_ (ao_.wkA (args := [.sl 1 (ow.map vStr) false, g]) (rG_ (ow := ow) (nm := nmsS l) (to := false) (tn := false) (by omega) (by omega)) rfl (fun j hj hj' => by match j, hj with | 0, _ => exact .refl _ | 1, _ => exact hgw)) ?_); rintro _ τL ⟨σ1, hCL, hS1⟩
   rename_i gL
   rw [hL] at hCL
   (refine aL_S rfl rfl v_ ?_)
   refine ac_ ?_
   skip
   have hC3 := hC2.sub hS1
   have hF3 := hF2.trans (WF.ofSub hC2 hS1)
   obtain ⟨bq, oldq, hq1, hq2⟩ := id hC3
   have hcase : (gL = vNil ∧ L = [] ∧ τL = σ1) ∨ ∃ ol, σ1.heap ol = none ∧ gL = .msl ol 1 0 L.length ∧ τL = σ1.set ol (.cells (L.map vInt)) := by
    rcases hCL with ⟨e1, e2, e3⟩ | ⟨ol, e0, e1, e2⟩
    ·exact .inl ⟨e1, List.map_eq_nil_iff.1 e2, e3⟩
    ·exact .inr ⟨ol, e0, by rw [e1, List.length_map], by rw [e2, lu_]⟩
   have hcase : (gL = vNil ∧ L = [] ∧ τL = σ1) ∨ (∃ ol, σ1.heap ol = none ∧ gL = .msl ol 1 0 L.length ∧ τL = σ1.set ol (.cells (L.map vInt)) ∧ decide ((0 : Int) < (L.length : Int)) = false) ∨ ∃ ol, σ1.heap ol = none ∧ gL = .msl ol 1 0 L.length ∧ τL = σ1.set ol (.cells (L.map vInt)) ∧ decide ((0 : Int) < (L.length : Int)) = true := by
    rcases hcase with h | ⟨ol, h⟩
    ·exact .inl h
    ·by_cases h0 : (0 : Int) < (L.length : Int)
     ·exact .inr (.inr ⟨ol, h.1, h.2.1, h.2.2, decide_eq_true h0⟩)
     ·exact .inr (.inl ⟨ol, h.1, h.2.1, h.2.2, decide_eq_false h0⟩)
   rcases hcase with ⟨rfl, hz, rfl⟩ | ⟨ol, hol, rfl, rfl, hz⟩ | ⟨ol, hol, rfl, rfl, hz⟩
   ·have hmm := gt_ (L := L) (c := 0) hLall (by decide)
    have hmn := gt_ (L := L) (c := 16) hLall (by decide)
    first
    |have hC9 : WC (σ1.set ol (.cells (L.map vInt))) o l t W := hC3.set hol
    |have hC9 := hC3
    first
    |have hF9 := hF3.alloc (x := .cells (L.map vInt)) hol (fun hh => by rw [hh, hq1] at hol; cases hol)
    |have hF9 := hF3
    have R := hz
    refine aa_ kr_ ?_
    iterate 5 (refine aL_S rfl rfl v_ ?_)
    first | (refine bA_ wn_ rfl ?_) | (refine cZ_ (as_ rfl rfl v_ (by rfl)) rfl v_ ?_)
    first | (refine bA_ wn_ rfl ?_) | (refine ch_ (as_ rfl rfl v_ (by rfl)) rfl (aD_ rfl g_ g_ rfl rfl h_ c2_ (by decide) ?_))
    first | (refine bA_ wn_ rfl ?_) | (refine ch_ (as_ rfl rfl v_ (by rfl)) rfl (d9_ rfl g_ g_ va_ (Store.set_get ..) (by simp) va_ (by simp) c_ (by simp; omega) fun o1 ho1 => ?_); refine ki_ fun S1 hS => ?_)
    first
    |have x1 : S1.heap o1 = some (.cells (L.map vInt ++ [vInt 0])) := by (rw [hS]; exact Store.set_get ..)
     have x2 : ∃ cs, S1.heap ol = some (.cells cs) ∧ cs.take L.length = L.map vInt ∧ L.length ≤ cs.length := pH_ hS ho1
     have x3 : S1.heap o = some (.cells [.sl 4 (l.map sEnt) t, bq]) ∧ (∀ k, S1.tok k = σ1.tok k) ∧ ∀ i x, i ≠ ol → σ1.heap i = some x → S1.heap i = some x := pI_ hS ho1 hol hq1
     obtain ⟨cs, y1, y2, y3⟩ := x2
    |skip
    first | (refine bA_ wn_ rfl ?_) | (refine ch_ (as_ rfl rfl v_ (by rfl)) rfl (ae_ rfl rfl (.inr ⟨rfl, rfl, rfl⟩) g_ va_ (lP_ (zs := L ++ [0]) (n := L.length + 1) (by simp) x1 (by rw [List.take_of_length_le (by simp)]; simp) (by simp) (by simp; omega)) ?_); rintro _ _ ⟨rfl, rfl⟩)
    first | (refine bA_ wn_ rfl ?_) | (refine cZ_ (as_ rfl rfl v_ (by rfl)) rfl v_ ?_)
    first | (refine bA_ wn_ rfl ?_) | (refine ch_ (as_ rfl rfl v_ (by rfl)) rfl (aD_ rfl g_ g_ rfl rfl h_ c2_ (by decide) ?_))
    first | (refine bA_ wn_ rfl ?_) | (refine ch_ (as_ rfl rfl v_ (by rfl)) rfl (bX_ rfl g_ g_ (.inl ⟨ol, cs, va_, y1, rfl, rfl, by omega⟩) va_ (by simp) c_ (by simp; omega) fun o2 ho2 => ?_); refine ki_ fun S2 hS2 => ?_)
    first
    |have z1 : S2.heap o2 = some (.cells (L.map vInt ++ [vInt 16])) := by (rw [hS2, Store.set_get, Nat.mul_one, y2]; rfl)
     have hC9 : WC S2 o l t W := WC.ext hC3 (by rw [hq1]; exact pG_ hS2 ho2 hol hq1 x3.1) (fun k => by rw [hS2]; exact x3.2.1 k)
     have hF9 : WF o σ S2 := hF3.trans (pF_ hS2 ho2 hol hq1 x3)
    |skip
    first | (refine bA_ wn_ rfl ?_) | (refine ch_ (as_ rfl rfl v_ (by rfl)) rfl (ae_ rfl rfl (.inr ⟨rfl, rfl, rfl⟩) g_ va_ (lS_ (zs := L ++ [16]) (n := L.length + 1) (by simp) z1 (by rw [List.take_of_length_le (by simp)]; simp) (by simp) (by simp; omega)) ?_); rintro _ _ ⟨rfl, rfl⟩)
    first | (refine bA_ wn_ rfl ?_) | (refine cZ_ (as_ rfl rfl v_ (by rfl)) rfl v_ ?_)
    first | (refine bA_ wn_ rfl ?_) | (refine cZ_ (as_ rfl rfl v_ (by rfl)) rfl v_ ?_)
    (refine aL_S rfl rfl v_ ?_)
    refine aL_X rfl rfl (ae_ rfl rfl (.inr ⟨rfl, rfl, rfl⟩) g_ va_ (dM_ hC9 (by omega)) ?_); rintro _ υ3 ⟨rfl, hC5, hF5⟩
    refine ac_ ?_
    refine aP_ v_ (Store.Wk.refl _) ?_
    refine ⟨rfl, ?_, hF9.trans hF5⟩
    first
    |(rw [iO_ (by first | exact hz | (rw [hz]; rfl))]; exact hC5)
    |(rw [hd_ hz]; exact hC5)
   ·have hmm := gt_ (L := L) (c := 0) hLall (by decide)
    have hmn := gt_ (L := L) (c := 16) hLall (by decide)
    first
    |have hC9 : WC (σ1.set ol (.cells (L.map vInt))) o l t W := hC3.set hol
    |have hC9 := hC3
    first
    |have hF9 := hF3.alloc (x := .cells (L.map vInt)) hol (fun hh => by rw [hh, hq1] at hol; cases hol)
    |have hF9 := hF3
    have R := hz
    refine aa_ kr_ ?_
    iterate 5 (refine aL_S rfl rfl v_ ?_)
    first | (refine bA_ wn_ rfl ?_) | (refine cZ_ (as_ rfl rfl v_ (by rfl)) rfl v_ ?_)
    first | (refine bA_ wn_ rfl ?_) | (refine ch_ (as_ rfl rfl v_ (by rfl)) rfl (aD_ rfl g_ g_ rfl rfl h_ c2_ (by decide) ?_))
    first | (refine bA_ wn_ rfl ?_) | (refine ch_ (as_ rfl rfl v_ (by rfl)) rfl (d9_ rfl g_ g_ va_ (Store.set_get ..) (by simp) va_ (by simp) c_ (by simp; omega) fun o1 ho1 => ?_); refine ki_ fun S1 hS => ?_)
    first
    |have x1 : S1.heap o1 = some (.cells (L.map vInt ++ [vInt 0])) := by (rw [hS]; exact Store.set_get ..)
     have x2 : ∃ cs, S1.heap ol = some (.cells cs) ∧ cs.take L.length = L.map vInt ∧ L.length ≤ cs.length := pH_ hS ho1
     have x3 : S1.heap o = some (.cells [.sl 4 (l.map sEnt) t, bq]) ∧ (∀ k, S1.tok k = σ1.tok k) ∧ ∀ i x, i ≠ ol → σ1.heap i = some x → S1.heap i = some x := pI_ hS ho1 hol hq1
     obtain ⟨cs, y1, y2, y3⟩ := x2
    |skip
    first | (refine bA_ wn_ rfl ?_) | (refine ch_ (as_ rfl rfl v_ (by rfl)) rfl (ae_ rfl rfl (.inr ⟨rfl, rfl, rfl⟩) g_ va_ (lP_ (zs := L ++ [0]) (n := L.length + 1) (by simp) x1 (by rw [List.take_of_length_le (by simp)]; simp) (by simp) (by simp; omega)) ?_); rintro _ _ ⟨rfl, rfl⟩)
    first | (refine bA_ wn_ rfl ?_) | (refine cZ_ (as_ rfl rfl v_ (by rfl)) rfl v_ ?_)
    first | (refine bA_ wn_ rfl ?_) | (refine ch_ (as_ rfl rfl v_ (by rfl)) rfl (aD_ rfl g_ g_ rfl rfl h_ c2_ (by decide) ?_))
    first | (refine bA_ wn_ rfl ?_) | (refine ch_ (as_ rfl rfl v_ (by rfl)) rfl (bX_ rfl g_ g_ (.inl ⟨ol, cs, va_, y1, rfl, rfl, by omega⟩) va_ (by simp) c_ (by simp; omega) fun o2 ho2 => ?_); refine ki_ fun S2 hS2 => ?_)
    first
    |have z1 : S2.heap o2 = some (.cells (L.map vInt ++ [vInt 16])) := by (rw [hS2, Store.set_get, Nat.mul_one, y2]; rfl)
     have hC9 : WC S2 o l t W := WC.ext hC3 (by rw [hq1]; exact pG_ hS2 ho2 hol hq1 x3.1) (fun k => by rw [hS2]; exact x3.2.1 k)
     have hF9 : WF o σ S2 := hF3.trans (pF_ hS2 ho2 hol hq1 x3)
    |skip
    first | (refine bA_ wn_ rfl ?_) | (refine ch_ (as_ rfl rfl v_ (by rfl)) rfl (ae_ rfl rfl (.inr ⟨rfl, rfl, rfl⟩) g_ va_ (lS_ (zs := L ++ [16]) (n := L.length + 1) (by simp) z1 (by rw [List.take_of_length_le (by simp)]; simp) (by simp) (by simp; omega)) ?_); rintro _ _ ⟨rfl, rfl⟩)
    first | (refine bA_ wn_ rfl ?_) | (refine cZ_ (as_ rfl rfl v_ (by rfl)) rfl v_ ?_)
    first | (refine bA_ wn_ rfl ?_) | (refine cZ_ (as_ rfl rfl v_ (by rfl)) rfl v_ ?_)
    (refine aL_S rfl rfl v_ ?_)
    refine aL_X rfl rfl (ae_ rfl rfl (.inr ⟨rfl, rfl, rfl⟩) g_ va_ (dM_ hC9 (by omega)) ?_); rintro _ υ3 ⟨rfl, hC5, hF5⟩
    refine ac_ ?_
    refine aP_ v_ (Store.Wk.refl _) ?_
    refine ⟨rfl, ?_, hF9.trans hF5⟩
    first
    |(rw [iO_ (by first | exact hz | (rw [hz]; rfl))]; exact hC5)
    |(rw [hd_ hz]; exact hC5)
   ·have hmm := gt_ (L := L) (c := 0) hLall (by decide)
    have hmn := gt_ (L := L) (c := 16) hLall (by decide)
    first
    |have hC9 : WC (σ1.set ol (.cells (L.map vInt))) o l t W := hC3.set hol
    |have hC9 := hC3
    first
    |have hF9 := hF3.alloc (x := .cells (L.map vInt)) hol (fun hh => by rw [hh, hq1] at hol; cases hol)
    |have hF9 := hF3
    have R := hz
    refine aa_ kr_ ?_
    iterate 5 (refine aL_S rfl rfl v_ ?_)
    first | (refine bA_ wn_ rfl ?_) | (refine cZ_ (as_ rfl rfl v_ (by rfl)) rfl v_ ?_)
    first | (refine bA_ wn_ rfl ?_) | (refine ch_ (as_ rfl rfl v_ (by rfl)) rfl (aD_ rfl g_ g_ rfl rfl h_ c2_ (by decide) ?_))
    first | (refine bA_ wn_ rfl ?_) | (refine ch_ (as_ rfl rfl v_ (by rfl)) rfl (d9_ rfl g_ g_ va_ (Store.set_get ..) (by simp) va_ (by simp) c_ (by simp; omega) fun o1 ho1 => ?_); refine ki_ fun S1 hS => ?_)
    first
    |have x1 : S1.heap o1 = some (.cells (L.map vInt ++ [vInt 0])) := by (rw [hS]; exact Store.set_get ..)
     have x2 : ∃ cs, S1.heap ol = some (.cells cs) ∧ cs.take L.length = L.map vInt ∧ L.length ≤ cs.length := pH_ hS ho1
     have x3 : S1.heap o = some (.cells [.sl 4 (l.map sEnt) t, bq]) ∧ (∀ k, S1.tok k = σ1.tok k) ∧ ∀ i x, i ≠ ol → σ1.heap i = some x → S1.heap i = some x := pI_ hS ho1 hol hq1
     obtain ⟨cs, y1, y2, y3⟩ := x2
    |skip
    first | (refine bA_ wn_ rfl ?_) | (refine ch_ (as_ rfl rfl v_ (by rfl)) rfl (ae_ rfl rfl (.inr ⟨rfl, rfl, rfl⟩) g_ va_ (lP_ (zs := L ++ [0]) (n := L.length + 1) (by simp) x1 (by rw [List.take_of_length_le (by simp)]; simp) (by simp) (by simp; omega)) ?_); rintro _ _ ⟨rfl, rfl⟩)
    first | (refine bA_ wn_ rfl ?_) | (refine cZ_ (as_ rfl rfl v_ (by rfl)) rfl v_ ?_)
    first | (refine bA_ wn_ rfl ?_) | (refine ch_ (as_ rfl rfl v_ (by rfl)) rfl (aD_ rfl g_ g_ rfl rfl h_ c2_ (by decide) ?_))
    first | (refine bA_ wn_ rfl ?_) | (refine ch_ (as_ rfl rfl v_ (by rfl)) rfl (bX_ rfl g_ g_ (.inl ⟨ol, cs, va_, y1, rfl, rfl, by omega⟩) va_ (by simp) c_ (by simp; omega) fun o2 ho2 => ?_); refine ki_ fun S2 hS2 => ?_)
    first
    |have z1 : S2.heap o2 = some (.cells (L.map vInt ++ [vInt 16])) := by (rw [hS2, Store.set_get, Nat.mul_one, y2]; rfl)
     have hC9 : WC S2 o l t W := WC.ext hC3 (by rw [hq1]; exact pG_ hS2 ho2 hol hq1 x3.1) (fun k => by rw [hS2]; exact x3.2.1 k)
     have hF9 : WF o σ S2 := hF3.trans (pF_ hS2 ho2 hol hq1 x3)
    |skip
    first | (refine bA_ wn_ rfl ?_) | (refine ch_ (as_ rfl rfl v_ (by rfl)) rfl (ae_ rfl rfl (.inr ⟨rfl, rfl, rfl⟩) g_ va_ (lS_ (zs := L ++ [16]) (n := L.length + 1) (by simp) z1 (by rw [List.take_of_length_le (by simp)]; simp) (by simp) (by simp; omega)) ?_); rintro _ _ ⟨rfl, rfl⟩)
    first | (refine bA_ wn_ rfl ?_) | (refine cZ_ (as_ rfl rfl v_ (by rfl)) rfl v_ ?_)
    first | (refine bA_ wn_ rfl ?_) | (refine cZ_ (as_ rfl rfl v_ (by rfl)) rfl v_ ?_)
    (refine aL_S rfl rfl v_ ?_)
    refine aL_X rfl rfl (ae_ rfl rfl (.inr ⟨rfl, rfl, rfl⟩) g_ va_ (dM_ hC9 (by omega)) ?_); rintro _ υ3 ⟨rfl, hC5, hF5⟩
    refine ac_ ?_
    refine aP_ v_ (Store.Wk.refl _) ?_
    refine ⟨rfl, ?_, hF9.trans hF5⟩
    first
    |(rw [iO_ (by first | exact hz | (rw [hz]; rfl))]; exact hC5)
    |(rw [hd_ hz]; exact hC5)
end Go.Proofs.YtkcmbjodladflaaGreatDoor
end

section
set_option linter.all false
set_option maxRecDepth 100000
namespace Go.Proofs.YtkcmbjodladflaaGreatDoor
open Go.Ab
theorem qa_ {m : Mbr} {σ : Store} : ao_ Tryz.prog 185 [sMbr m] σ fun v σ' => v = vStr m.rack ∧ σ = σ' := by
 refine aj_ Tryz.func185 rfl Tryz.ntmps185 (congrArg Array.toList Tryz.results185) (by simp only [List.length_cons, List.length_nil]; decide) ?_; simp only [af_, ak_, Nat.reduceAdd]
 refine ab_ ?_
 refine aa_ kr_ ?_
 refine bb_ rfl rfl rfl v_ rfl g_ fun o1 ho1 => ?_
 repeat (rw [an_] at ho1; obtain ⟨_, ho1⟩ := ho1)
 (refine aL_S rfl rfl v_ ?_)
 refine ac_ ?_
 refine ab_ ?_
 refine aa_ kr_ ?_
 iterate 3 (refine aL_S rfl rfl v_ ?_)
 refine ac_ ?_
 refine am_ ?_
 refine ai_ (σ' := σ) v_ sub_ ?_
 exact ⟨rfl, rfl⟩
def jD_ (ms : List Mbr) : List ByteArray := bC_ (bK_ (ms.map Mbr.rack))
theorem mB_ {ms : List Mbr} {t : Bool} {σ : Store} (hl : ms.length ≤ 1000) : ao_ Tryz.prog 184 [.sl 4 (ms.map sMbr) t, .lit (.func (.func 185) #[] #[])] σ fun v σ' => v = .sl 1 ((jD_ ms).map vStr) false ∧ σ = σ' := by
 refine aj_ Tryz.func184 rfl Tryz.ntmps184 (congrArg Array.toList Tryz.results184) (by simp only [List.length_cons, List.length_nil]; decide) ?_; simp only [af_, ak_, Nat.reduceAdd]
 refine ab_ ?_
 refine aa_ kr_ ?_
 (refine aL_S rfl rfl v_ ?_)
 refine ac_ ?_
 refine ab_ ?_
 refine aa_ kr_ ?_
 (refine aL_S rfl rfl v_ ?_)
 refine ac_ ?_
 refine ab_ ?_
 refine ab_ ?_
 refine aa_ kr_ ?_
 iterate 3 (refine aL_S rfl rfl v_ ?_)
 refine ac_ ?_
 refine al_ ?_
 refine ap_ (ι := Store × AVal × Nat) (fun ⟨τ, g, k⟩ => ms.length - k) (fun ⟨τ, g, k⟩ => k ≤ ms.length ∧ CBp σ τ 1 (((ms.take k).map Mbr.rack).map vStr) g) (fun ⟨τ, g, k⟩ => [(1, .lit (.func (.func 185) #[] #[])), (5, g), (8, .sl 4 (ms.map sMbr) t), (9, vInt ms.length), (10, vInt k)]) (fun ⟨τ, g, k⟩ => τ) (σ, vNil, 0) ?_ ?_ ?_ ?_
 ·exact ⟨Nat.zero_le _, .inl ⟨rfl, rfl, rfl⟩⟩
 ·exact cv_
 ·exact Store.Wk.refl _
 rintro ⟨τ, g, k⟩ ⟨hk, hC⟩
 simp only [ar_, au_]
 refine ab_ ?_
 refine aa_ kr_ ?_
 (refine aL_S rfl rfl v_ ?_)
 refine ac_ ?_
 refine ab_ ?_
 refine ad_ v_ (fun hc3 => ?_) (fun hc3 => ?_)
 ·replace hc3 := nm_ hc3
  refine ah_ ?_
  refine ab_ ?_
  refine al_ ?_
  refine ab_ ?_
  obtain ⟨x, hx⟩ := aA_ (l := ms) (k := k) (by omega)
  have hle : ((ms.take k).map Mbr.rack).length ≤ 1000 := by rw [List.length_map, List.length_take]; omega
  have R := hx
  refine aa_ kr_ ?_
  iterate 2 (refine aL_S rfl rfl v_ ?_)
  refine aQ_ rfl rfl rfl g_ gl_ fun o7 ho7 => ?_
  repeat (rw [an_] at ho7; obtain ⟨_, ho7⟩ := ho7)
  refine av_ rfl rfl rfl v_ v_ h_ g_ rfl g_ c_ (by rfl) le_ v_ ?_
  refine ac_ ?_
  skip
  have n7 := b5_ hC ho7
  have hC1 := cr_ (x := .cells (sMbr d1_).cells) (y := .cells (sMbr x).cells) hC ho7
  refine aa_ kr_ ?_
  iterate 3 (refine aL_S rfl rfl v_ ?_)
  refine aL_X rfl rfl (ae_ rfl rfl (.inr ⟨va_, rfl, rfl⟩) g_ va_ (qa_) ?_); rintro _ _ ⟨rfl, rfl⟩
  refine aw_ rfl rfl rfl g_ g_ rfl rfl h_ c2_ (by decide) ?_
  refine aL_X rfl rfl (bz_ rfl g_ g_ hC1 va_ (fun y hy => by obtain ⟨s, _, rfl⟩ := List.mem_map.1 hy; rfl) va_ c_ (by simp only [List.length_map, List.length_singleton] at *; omega) fun a' σ' hC3 => ?_)
  rw [show ((ms.take k).map Mbr.rack).map vStr ++ [vStr x.rack] = ((ms.take k).map Mbr.rack ++ [x].map Mbr.rack).map vStr from by simp] at hC3
  obtain ⟨τ2, hC5, hs2⟩ := b2_ hC3 n7
  (refine aL_S rfl rfl v_ ?_)
  refine ac_ ?_
  refine aa_ kr_ ?_
  iterate 2 (refine aL_S rfl rfl v_ ?_)
  refine ac_ ?_
  refine aJ_ (ι := Store × AVal × Nat) (i := ⟨τ, g, k⟩) (τ2, a', k + 1) ?_ ?_ ?_ ?_
  ·show ms.length - (k + 1) < ms.length - k; omega
  ·exact ⟨by show k + 1 ≤ ms.length; omega, by rw [aX_ hx, List.map_append]; exact hC5⟩
  ·exact cv_
  ·exact hs2.wk
 ·replace hc3 := nm_ hc3
  refine ax_ ?_
  refine ag_ ?_
  refine ag_ ?_
  refine aq_ ?_
  refine ab_ ?_
  obtain rfl : k = ms.length := by omega
  rw [List.take_length] at hC
  refine aa_ kr_ ?_
  (refine aL_S rfl rfl v_ ?_)
  refine aL_X rfl rfl (ae_ rfl rfl (.inr ⟨rfl, rfl, rfl⟩) g_ va_ (g8_ hC (by rw [List.length_map]; omega)) ?_); rintro _ τ1 ⟨rfl, hC4⟩
  refine ac_ ?_
  refine ab_ ?_
  refine aa_ kr_ ?_
  (refine aL_S rfl rfl v_ ?_)
  refine aL_X rfl rfl (ae_ rfl rfl (.inr ⟨rfl, rfl, rfl⟩) g_ va_ (eg_ (ss := bK_ (ms.map Mbr.rack)) hC4 (by simp [bK_]; omega) (by refine Nat.le_trans (dO_ _) (by simp))) ?_); rintro _ _ ⟨rfl, rfl⟩
  (refine aL_S rfl rfl v_ ?_)
  refine ac_ ?_
  refine am_ ?_
  refine ai_ (σ' := σ) v_ sub_ ?_
  exact ⟨rfl, rfl⟩
theorem l9_ {ms : List Mbr} {t : Bool} {σ : Store} (hl : ms.length ≤ 1000) : ao_ Tryz.prog 138 [.sl 4 (ms.map sMbr) t] σ fun v σ' => v = .sl 1 ((jD_ ms).map vStr) false ∧ σ = σ' := by
 refine aj_ Tryz.func138 rfl Tryz.ntmps138 (congrArg Array.toList Tryz.results138) (by simp only [List.length_cons, List.length_nil]; decide) ?_; simp only [af_, ak_, Nat.reduceAdd]
 refine ab_ ?_
 refine aa_ kr_ ?_
 (refine aL_S rfl rfl v_ ?_)
 refine ac_ ?_
 refine ab_ ?_
 refine aa_ kr_ ?_
 (refine aL_S rfl rfl v_ ?_)
 refine aL_X rfl rfl (ae_ rfl rfl (.inr ⟨rfl, rfl, rfl⟩) g_ va_ (mB_ hl) ?_); rintro _ _ ⟨rfl, rfl⟩
 (refine aL_S rfl rfl v_ ?_)
 refine ac_ ?_
 refine am_ ?_
 refine ai_ (σ' := σ) v_ sub_ ?_
 exact ⟨rfl, rfl⟩
end Go.Proofs.YtkcmbjodladflaaGreatDoor
end

section
set_option linter.all false
set_option maxRecDepth 100000
namespace Go.Proofs.YtkcmbjodladflaaGreatDoor
open Go.Ab
def cutS (s : ByteArray) : ByteArray × ByteArray × Bool := if 0 ≤ dZ_ (Lb s) then (s.extract 0 (dZ_ (Lb s)).toNat, s.extract ((dZ_ (Lb s)).toNat + 1) s.size, true) else (s, ⟨#[]⟩, false)
theorem qm_ {s : ByteArray} {σ : Store} (hs : s.size ≤ 1000000) : ao_ Tryz.prog 181 [vStr s, v47] σ fun v σ' => v = .tup [vStr (cutS s).1, vStr (cutS s).2.1, vB (cutS s).2.2] ∧ σ = σ' := by
 have hz : (ByteArray.mk #[47]).size = 1 := rfl
 refine aj_ Tryz.func181 rfl Tryz.ntmps181 (congrArg Array.toList Tryz.results181) (by simp only [List.length_cons, List.length_nil]; decide) ?_; simp only [af_, ak_, Nat.reduceAdd]
 refine ab_ ?_
 refine aa_ kr_ ?_
 iterate 3 (refine aL_S rfl rfl v_ ?_)
 refine ac_ ?_
 refine ab_ ?_
 refine ab_ ?_
 refine aa_ kr_ ?_
 iterate 2 (refine aL_S rfl rfl v_ ?_)
 refine aL_X rfl rfl (ae_ rfl rfl (.inr ⟨rfl, rfl, rfl⟩) g_ va_ (h2_) ?_); rintro _ _ ⟨rfl, rfl⟩
 (refine aL_S rfl rfl v_ ?_)
 refine ac_ ?_
 refine ab_ ?_
 refine aa_ kr_ ?_
 iterate 2 (refine aL_S rfl rfl v_ ?_)
 refine ac_ ?_
 refine ad_ v_ (fun hc2 => ?_) (fun hc2 => ?_)
 ·replace hc2 := nm_ hc2
  obtain ⟨i, hi⟩ : ∃ i : Nat, dZ_ (Lb s) = i := ⟨(dZ_ (Lb s)).toNat, by omega⟩
  have hlt := (k6_.2 i hi).2.2
  rw [aB_] at hlt
  have htn : ((i : Int) + ((1 : Nat) : Int)).toNat = i + 1 := by omega
  have hcu : cutS s = (s.extract 0 i, s.extract (i + 1) s.size, true) := by rw [cutS, if_pos (by omega), hi]; rfl
  rw [hi]
  refine ab_ ?_
  have R := And.intro hz htn
  refine aG_ (.op 0 0 (.op 1 0 (.op 2 0 (.op 3 0 (.op 4 0 (.op 5 0 (.op 6 0 (.op 7 0 (.op 8 0 (.op 9 0 (.op 10 0 (.op 11 0 .nil)))))))))))) Tryz.mixed kr_ ?_
  iterate 12 (refine dR_S o_ (by rfl) (by rfl) v_ ?_)
  refine aL_ ?_
  refine am_ ?_
  refine ai_ (σ' := σ) v_ sub_ ?_
  exact ⟨by rw [hcu], rfl⟩
 ·replace hc2 := nm_ hc2
  refine ah_ ?_
  refine ab_ ?_
  refine aa_ kr_ ?_
  iterate 4 (refine aL_S rfl rfl v_ ?_)
  refine ac_ ?_
  refine am_ ?_
  refine ai_ (σ' := σ) v_ sub_ ?_
  exact ⟨by rw [cutS, if_neg (by omega)], rfl⟩
theorem sP_ {s : ByteArray} {σ : Store} (hs : s.size ≤ 1000000) : ao_ Tryz.prog 136 [vStr s, v47] σ fun v σ' => v = .tup [vStr (cutS s).1, vStr (cutS s).2.1, vB (cutS s).2.2] ∧ σ = σ' := by
 refine aj_ Tryz.func136 rfl Tryz.ntmps136 (congrArg Array.toList Tryz.results136) (by simp only [List.length_cons, List.length_nil]; decide) ?_; simp only [af_, ak_, Nat.reduceAdd]
 refine ab_ ?_
 refine aa_ kr_ ?_
 iterate 3 (refine aL_S rfl rfl v_ ?_)
 refine ac_ ?_
 refine ab_ ?_
 refine aa_ kr_ ?_
 iterate 2 (refine aL_S rfl rfl v_ ?_)
 refine aL_X rfl rfl (ae_ rfl rfl (.inr ⟨rfl, rfl, rfl⟩) g_ va_ (qm_ hs) ?_); rintro _ _ ⟨rfl, rfl⟩
 iterate 6 (refine aL_S rfl rfl v_ ?_)
 refine ac_ ?_
 refine am_ ?_
 refine ai_ (σ' := σ) v_ sub_ ?_
 exact ⟨rfl, rfl⟩
theorem rc_ (s : ByteArray) : (cutS s).1.size ≤ s.size ∧ (cutS s).2.1.size ≤ s.size := by
 unfold cutS
 split
 ·simp only [ByteArray.size_extract]; omega
 ·exact ⟨Nat.le_refl _, Nat.zero_le _⟩
def alwE (x : Ent) : Bool := decide (0 < (rgtA x.value).getD 0) && bi_ x.key
theorem qN_ {x : Ent} {σ : Store} (hk : x.key.size ≤ 400000) : ao_ Tryz.prog 188 [sEnt x] σ fun v σ' => v = vB (alwE x) ∧ σ = σ' := by
 refine aj_ Tryz.func188 rfl Tryz.ntmps188 (congrArg Array.toList Tryz.results188) (by simp only [List.length_cons, List.length_nil]; decide) ?_; simp only [af_, ak_, Nat.reduceAdd]
 refine ab_ ?_
 refine aa_ kr_ ?_
 refine bb_ rfl rfl rfl v_ rfl g_ fun o1 ho1 => ?_
 repeat (rw [an_] at ho1; obtain ⟨_, ho1⟩ := ho1)
 (refine aL_S rfl rfl v_ ?_)
 refine ac_ ?_
 refine ab_ ?_
 refine aa_ kr_ ?_
 iterate 3 (refine aL_S rfl rfl v_ ?_)
 refine aL_X rfl rfl (ae_ rfl rfl (.inr ⟨rfl, rfl, rfl⟩) g_ va_ (n1_) ?_); rintro _ _ ⟨rfl, rfl⟩
 iterate 5 (refine aL_S rfl rfl v_ ?_)
 refine ac_ ?_
 refine ab_ ?_
 refine aa_ kr_ ?_
 iterate 3 (refine aL_S rfl rfl v_ ?_)
 refine aC_ rfl rfl v_ rfl vg_ ?_
 refine aC_ rfl rfl v_ rfl vg_ ?_
 refine b8_ rfl rfl v_ rfl (fun hb => aK_ (by rfl) (by rfl) (.inr ⟨by rfl, by rfl, by rfl⟩) g_ cg_ (eX_ (by omega))) ?_
 iterate 2 (refine aL_S rfl rfl v_ ?_)
 refine ac_ ?_
 refine am_ ?_
 refine ai_ (σ' := σ) v_ sub_ ?_
 exact ⟨by unfold alwE; rw [show decide (0 < (((rgtA x.value).getD 0 : Nat) : Int)) = decide (0 < (rgtA x.value).getD 0) from decide_eq_decide.2 (by omega)], rfl⟩
abbrev fAl : AVal := .lit (.func (.func 188) #[] #[])
theorem pB_ {l : List Ent} {t : Bool} {σ : Store} (hn : l.length ≤ 1000000) (hs : ∀ x ∈ l, x.key.size ≤ 400000) : ao_ Tryz.prog 190 [.sl 4 (l.map sEnt) t, fAl] σ fun v σ' => (∃ r, v = vInt r ∧ decide (0 ≤ r) = l.any alwE) ∧ σ = σ' := by
 refine aj_ Tryz.func190 rfl Tryz.ntmps190 (congrArg Array.toList Tryz.results190) (by simp only [List.length_cons, List.length_nil]; decide) ?_; simp only [af_, ak_, Nat.reduceAdd]
 refine ab_ ?_
 refine aa_ kr_ ?_
 (refine aL_S rfl rfl v_ ?_)
 refine ac_ ?_
 refine ab_ ?_
 refine ab_ ?_
 refine aa_ kr_ ?_
 iterate 3 (refine aL_S rfl rfl v_ ?_)
 refine ac_ ?_
 refine al_ ?_
 refine ap_ (ι := Nat) (fun k => l.length - k) (fun k => k ≤ l.length ∧ (l.take k).any alwE = false) (fun k => [(0, .sl 4 (l.map sEnt) t), (1, fAl), (7, vInt l.length), (8, vInt k)]) (fun k => σ) 0 ?_ ?_ ?_ ?_
 ·exact ⟨Nat.zero_le _, rfl⟩
 ·exact cv_
 ·exact sub_
 rintro k ⟨hk, ha⟩
 simp only [ar_, au_]
 refine ab_ ?_
 refine aa_ kr_ ?_
 (refine aL_S rfl rfl v_ ?_)
 refine ac_ ?_
 refine ab_ ?_
 refine ad_ v_ (fun hc2 => ?_) (fun hc2 => ?_)
 ·replace hc2 := nm_ hc2
  refine ah_ ?_
  refine ab_ ?_
  refine al_ ?_
  refine ab_ ?_
  refine aa_ kr_ ?_
  iterate 2 (refine aL_S rfl rfl v_ ?_)
  refine ac_ ?_
  refine ab_ ?_
  obtain ⟨y, hy⟩ := aA_ (l := l) (k := k) (by omega)
  have R := hy
  refine aa_ kr_ ?_
  iterate 5 (refine aL_S rfl rfl v_ ?_)
  refine aL_X rfl rfl (ae_ rfl rfl (.inr ⟨va_, rfl, rfl⟩) g_ va_ (qN_ (hs y (List.mem_of_getElem? hy))) ?_); rintro _ _ ⟨rfl, rfl⟩
  refine ac_ ?_
  refine ad_ v_ (fun hc4 => ?_) (fun hc4 => ?_)
  ·replace hc4 := nm_ hc4
   refine ab_ ?_
   refine aa_ kr_ ?_
   iterate 2 (refine aL_S rfl rfl v_ ?_)
   refine ac_ ?_
   refine am_ ?_
   refine ai_ (σ' := σ) v_ sub_ ?_
   exact ⟨⟨(k : Int), rfl, by rw [decide_eq_true (by omega)]; exact (id_ hy (by simpa using hc4)).symm⟩, rfl⟩
  ·replace hc4 := nm_ hc4
   refine ah_ ?_
   refine aa_ kr_ ?_
   iterate 2 (refine aL_S rfl rfl v_ ?_)
   refine ac_ ?_
   refine aJ_ (ι := Nat) (i := k) (k + 1) ?_ ?_ ?_ ?_
   ·omega
   ·exact ⟨by omega, gH_ hy (by simpa using hc4) ha⟩
   ·exact cv_
   ·exact sub_
 ·replace hc2 := nm_ hc2
  refine ax_ ?_
  refine ag_ ?_
  refine ag_ ?_
  refine aq_ ?_
  refine ab_ ?_
  refine aa_ kr_ ?_
  (refine aL_S rfl rfl v_ ?_)
  refine ac_ ?_
  refine am_ ?_
  refine ai_ (σ' := σ) v_ sub_ ?_
  exact ⟨⟨-1, rfl, (ic_ (by omega) ha).symm⟩, rfl⟩
theorem pk_ {l : List Ent} {t : Bool} {σ : Store} (hn : l.length ≤ 1000000) (hs : ∀ x ∈ l, x.key.size ≤ 400000) : ao_ Tryz.prog 187 [.sl 4 (l.map sEnt) t, fAl] σ fun v σ' => v = vB (l.any alwE) ∧ σ = σ' := by
 refine aj_ Tryz.func187 rfl Tryz.ntmps187 (congrArg Array.toList Tryz.results187) (by simp only [List.length_cons, List.length_nil]; decide) ?_; simp only [af_, ak_, Nat.reduceAdd]
 refine ab_ ?_
 refine aa_ kr_ ?_
 (refine aL_S rfl rfl v_ ?_)
 refine ac_ ?_
 refine ab_ ?_
 refine aa_ kr_ ?_
 iterate 2 (refine aL_S rfl rfl v_ ?_)
 refine aL_X rfl rfl (ae_ rfl rfl (.inr ⟨rfl, rfl, rfl⟩) g_ va_ (pB_ hn hs) ?_); rintro _ _ ⟨⟨r, rfl, hr⟩, rfl⟩
 iterate 2 (refine aL_S rfl rfl v_ ?_)
 refine ac_ ?_
 refine am_ ?_
 refine ai_ (σ' := σ) v_ sub_ ?_
 exact ⟨by rw [← hr], rfl⟩
def e5_ : ByteArray := ⟨#[97, 99, 108, 47]⟩
def alwS (l : List Ent) (p : ByteArray) : Bool := (undS l (e5_ ++ p)).any alwE
theorem kT_ {o : Nat} {l : List Ent} {t : Bool} {ws : List Wn} {p : ByteArray} {σ : Store} (h : WC σ o l t ws) (hp : p.size ≤ 400000) (hl : l.length ≤ 1000) (hk : ∀ x ∈ l, x.key.size ≤ 400000) : ao_ Tryz.prog 140 [.ref o 0, vStr p] σ fun v σ' => v = vB (alwS l p) ∧ σ = σ' := by
 obtain ⟨b0, old0, h01, h02⟩ := id h
 have e1 := eq_ e5_ p (by rw [show e5_.size = 4 from rfl]; omega)
 have hul := dL_ l (e5_ ++ p)
 refine aj_ Tryz.func140 rfl Tryz.ntmps140 (congrArg Array.toList Tryz.results140) (by simp only [List.length_cons, List.length_nil]; decide) ?_; simp only [af_, ak_, Nat.reduceAdd]
 refine ab_ ?_
 refine aa_ kr_ ?_
 (refine aL_S rfl rfl v_ ?_)
 refine ac_ ?_
 refine ab_ ?_
 have R := And.intro h01 (((show astr .add (⟨#[97, 99, 108, 47]⟩ : ByteArray) p = some (.string (e5_ ++ p)) from e1)))
 refine aa_ kr_ ?_
 iterate 6 (refine aL_S rfl rfl v_ ?_)
 refine aL_X rfl rfl (ae_ rfl rfl (.inr ⟨rfl, rfl, rfl⟩) g_ va_ (hb_ (s := e5_ ++ p) (by omega) (by rw [ByteArray.size_append, show e5_.size = 4 from rfl]; omega)) ?_); rintro _ _ ⟨rfl, rfl⟩
 refine aL_X rfl rfl (ae_ rfl rfl (.inr ⟨rfl, rfl, rfl⟩) g_ va_ (pk_ (l := undS l (e5_ ++ p)) (by omega) (fun x hx => hk x (List.mem_filter.1 hx).1)) ?_); rintro _ _ ⟨rfl, rfl⟩
 (refine aL_S rfl rfl v_ ?_)
 refine ac_ ?_
 refine am_ ?_
 refine ai_ (σ' := σ) v_ sub_ ?_
 exact ⟨rfl, rfl⟩
theorem pv_ {l : List Ent} {a b f : ByteArray} {o : Int} (h0 : 0 ≤ o) (h1 : o ≤ 16) : 0 ≤ fldS l a b f o ∧ fldS l a b f o ≤ 16 := by
 unfold fldS
 split
 ·split
  ·rename_i n _ h
   unfold mayP bdP at h
   simp only [Bool.and_eq_true, decide_eq_true_eq] at h
   split at h
   ·obtain ⟨⟨_, h2⟩, h3⟩ := h; simp only at h2 h3; omega
   ·split at h
    ·obtain ⟨⟨_, h2⟩, h3⟩ := h; simp only at h2 h3; omega
    ·split at h
     ·obtain ⟨⟨_, h2⟩, h3⟩ := h; simp only at h2 h3; omega
     ·obtain ⟨⟨h2, _⟩, _⟩ := h; cases h2
  ·exact ⟨h0, h1⟩
 ·exact ⟨h0, h1⟩
theorem rl_ {l : List Ent} {a b : ByteArray} : 1 ≤ fldS l a b fdN 3 := by
 unfold fldS
 split
 ·split
  ·rename_i n _ h
   unfold mayP at h
   rw [show bdP fdN = (1, 16, true) from by decide] at h
   simp only [Bool.and_eq_true, decide_eq_true_eq] at h
   exact h.1.2
  ·decide
 ·decide
def keyP (p : ByteArray) : ByteArray := cJ_ [aO_, p]
def fewS (l : List Ent) (q : Prp) : Bool := decide (((bT_ l).length : Int) < q.n)
def rckS (l : List Ent) (q : Prp) : Bool := !fewS l q && decide (((jD_ (bT_ l)).length : Int) < q.n)
def wkS (q : Prp) : Bool := !fX_ q && decide (q.r + q.w ≤ q.n)
def bktQ (l : List Ent) (p : ByteArray) (q : Prp) : List Wn := wIf (fewS l q) 3 (keyP p) ++ (wIf (rckS l q) 4 (keyP p) ++ (wIf (wkS q) 5 (keyP p) ++ wIf (!alwS l p) 6 (keyP p)))
def bktW (l : List Ent) (p : ByteArray) : List Wn := bktQ l p (prpS l (cutS p).1 (cutS p).2.1)
theorem ng_ (l : List Ent) (p : ByteArray) (q : Prp) : (bktQ l p q).length ≤ 4 := by
 unfold bktQ
 have h1 := bO_ (fewS l q) 3 (keyP p)
 have h2 := bO_ (rckS l q) 4 (keyP p)
 have h3 := bO_ (wkS q) 5 (keyP p)
 have h4 := bO_ (!alwS l p) 6 (keyP p)
 simp only [List.length_append]; omega
theorem if_ (l : List Ent) (p : ByteArray) : (bktW l p).length ≤ 4 := ng_ l p _
theorem jm_ {l : List Ent} {a b f : ByteArray} {o : Int} (h0 : 0 ≤ o) (h1 : o ≤ 16) : 0 ≤ minF l a b f o ∧ minF l a b f o ≤ 16 := by
 have h2 := pv_ (l := l) (a := a) (b := b) (f := f) h0 h1
 have h3 := rl_ (l := l) (a := a) (b := b)
 unfold minF; omega
set_option maxHeartbeats 4000000 in
theorem nh_ {o : Nat} {l : List Ent} {t : Bool} {σ : Store} {ws : List Wn} {p : ByteArray} (h : WC σ o l t ws) (hw : ws.length ≤ 100000) (hp : p.size ≤ 200000) (hl : l.length ≤ 1000) (hs : ∀ x ∈ l, EntSm x) (hks : ∀ x ∈ l, x.key.size ≤ 400000 ∧ x.value.size ≤ 400000) : ao_ Tryz.prog 77 [.ref o 0, vStr p] σ fun v σ' => v = .tup [] ∧ WC σ' o l t (ws ++ bktW l p) ∧ WF o σ σ' := by
 obtain ⟨b0, old0, h01, h02⟩ := id h
 have hcz := rc_ p
 have hbk : bktW l p = bktQ l p (prpS l (cutS p).1 (cutS p).2.1) := rfl
 have hml := dm_ l
 obtain ⟨a, ha⟩ : ∃ a, (cutS p).1 = a := ⟨_, rfl⟩
 obtain ⟨b, hb⟩ : ∃ b, (cutS p).2.1 = b := ⟨_, rfl⟩
 rw [ha, hb] at hcz hbk
 have hn0 : 1 ≤ (prpS l a b).n := rl_
 have hr0 : 0 ≤ (prpS l a b).r ∧ (prpS l a b).r ≤ 16 := jm_ (by decide) (by decide)
 have hw0 : 0 ≤ (prpS l a b).w ∧ (prpS l a b).w ≤ 16 := jm_ (by decide) (by decide)
 obtain ⟨q, hq⟩ : ∃ q, prpS l a b = q := ⟨_, rfl⟩
 rw [hq] at hbk hn0 hr0 hw0
 have g1 := fun b => bO_ b 3 (keyP p)
 have g2 := fun b => bO_ b 4 (keyP p)
 have g3 := fun b => bO_ b 5 (keyP p)
 obtain ⟨fw, hfw⟩ : ∃ fw, decide (((bT_ l).length : Int) < q.n) = fw := ⟨_, rfl⟩
 have hfb : fw = true ∨ fw = false := by cases fw; exact .inr rfl; exact .inl rfl
 have hfs : fewS l q = fw := hfw
 have hrs : rckS l q = (!fw && decide (((jD_ (bT_ l)).length : Int) < q.n)) := by rw [rckS, hfs]
 have hwk : wkS q = (!fX_ q && decide (q.r + q.w ≤ q.n)) := rfl
 refine aj_ Tryz.func77 rfl Tryz.ntmps77 (congrArg Array.toList Tryz.results77) (by simp only [List.length_cons, List.length_nil]; decide) ?_; simp only [af_, ak_, Nat.reduceAdd]
 refine ab_ ?_
 refine aa_ kr_ ?_
 (refine aL_S rfl rfl v_ ?_)
 refine aL_X rfl rfl (ae_ rfl rfl (.inr ⟨rfl, rfl, rfl⟩) g_ va_ (sP_ (by omega)) ?_); rintro _ _ ⟨rfl, rfl⟩
 rw [ha, hb]
 iterate 7 (refine aL_S rfl rfl v_ ?_)
 refine ac_ ?_
 refine bp_ (ι := Nat) (fun p7 => σ.heap p7 = none) (fun p7 => [(0, .ref o 0), (1, vStr p), (7, .ref p7 0), (8, .sl 4 ((bT_ l).map sMbr) false), (9, vStr (keyP p))]) (fun p7 => (σ.set p7 (.cells (sPrp q).cells))) ?_ ?_
 ·have R := h01
  refine aG_ (.op 0 0 (.op 1 0 (.op 2 0 (.op 3 0 (.op 4 0 (.op 5 0 (.op 7 0 (.op 8 0 (.op 9 0 (.op 10 0 (.op 12 0 (.alt 6 1 (.alt 11 1 (.alt 13 1 (.alt 14 1 (.op 15 1 (.op 16 2 (.op 17 0 (.op 18 0 .nil)))) (.op 15 1 (.op 14 1 (.op 16 2 (.op 17 0 (.op 18 0 .nil)))))) (.op 15 1 (.op 13 1 (.op 14 1 (.op 16 2 (.op 17 0 (.op 18 0 .nil))))))) (.alt 13 1 (.alt 11 1 (.alt 14 1 (.op 15 1 (.op 16 2 (.op 17 0 (.op 18 0 .nil)))) (.op 15 1 (.op 14 1 (.op 16 2 (.op 17 0 (.op 18 0 .nil)))))) (.op 15 1 (.op 11 1 (.op 14 1 (.op 16 2 (.op 17 0 (.op 18 0 .nil))))))) (.op 15 1 (.alt 11 1 (.op 13 1 (.op 14 1 (.op 16 2 (.op 17 0 (.op 18 0 .nil))))) (.op 13 1 (.op 11 1 (.op 14 1 (.op 16 2 (.op 17 0 (.op 18 0 .nil)))))))))) (.alt 13 1 (.alt 6 1 (.alt 11 1 (.alt 14 1 (.op 15 1 (.op 16 2 (.op 17 0 (.op 18 0 .nil)))) (.op 15 1 (.op 14 1 (.op 16 2 (.op 17 0 (.op 18 0 .nil)))))) (.op 15 1 (.op 11 1 (.op 14 1 (.op 16 2 (.op 17 0 (.op 18 0 .nil))))))) (.op 15 1 (.op 6 1 (.op 11 1 (.op 14 1 (.op 16 2 (.op 17 0 (.op 18 0 .nil)))))))) (.op 15 1 (.alt 6 1 (.alt 11 1 (.op 13 1 (.op 14 1 (.op 16 2 (.op 17 0 (.op 18 0 .nil))))) (.op 13 1 (.op 11 1 (.op 14 1 (.op 16 2 (.op 17 0 (.op 18 0 .nil))))))) (.op 13 1 (.op 6 1 (.op 11 1 (.op 14 1 (.op 16 2 (.op 17 0 (.op 18 0 .nil)))))))))))))))))))))) Tryz.mixed kr_ ?_
  iterate 11 (refine dR_S o_ (by rfl) (by rfl) v_ ?_)
  refine ck_ ?_ ?_
  ·refine dR_X o_ (by rfl) (by rfl) (ae_ (by rfl) (by rfl) (.inr ⟨by rfl, by rfl, by rfl⟩) g_ va_ (l0_ (a := a) (b := b) (by omega) hs (by omega) (by omega)) ?_); rintro _ _ ⟨rfl, rfl⟩; refine ⟨sub_, ?_⟩
   rw [hq]
   refine ck_ ?_ ?_
   ·refine dR_X o_ (by rfl) (by rfl) (ae_ (by rfl) (by rfl) (.inr ⟨by rfl, by rfl, by rfl⟩) g_ va_ (bn_ (by omega) hs hks) ?_); rintro _ _ ⟨rfl, rfl⟩; refine ⟨sub_, ?_⟩
    refine ck_ ?_ ?_
    ·refine dR_X o_ (by rfl) (by rfl) (aD_ (by rfl) g_ g_ (by rfl) (by rfl) h_ c2_ (by decide) ⟨sub_, ?_⟩)
     refine ck_ ?_ ?_
     ·refine dR_X o_ (by rfl) (by rfl) (ae_ (by rfl) (by rfl) (.inr ⟨by rfl, by rfl, by rfl⟩) g_ va_ (bJ_ (l := [aO_, p]) (by simp) (by simp [aB_, show (Lb aO_).length = 4 from rfl]; omega)) ?_); rintro _ _ ⟨rfl, rfl⟩; refine ⟨sub_, ?_⟩
      refine bm_ o_ (by rfl) (by rfl) (by rfl) g_ gl_ sub_ fun o7 ho7 => ?_
      repeat (rw [an_] at ho7; obtain ⟨_, ho7⟩ := ho7)
      refine aM_ o_ (by rfl) (by rfl) (by rfl) v_ v_ h_ g_ rfl g_ c_ (by rfl) le_ v_ ?_
      iterate 2 (refine dR_S o_ (by rfl) (by rfl) v_ ?_)
      refine aL_ ?_
      refine ⟨o7, ?_, ?_, ?_⟩
      ·exact ho7
      ·exact cv_
      ·(try dsimp only); (try rw [Store.set_set]); exact sub_
     refine bm_ o_ (by rfl) (by rfl) (by rfl) g_ gl_ sub_ fun o7 ho7 => ?_
     repeat (rw [an_] at ho7; obtain ⟨_, ho7⟩ := ho7)
     refine dR_X o_ (by rfl) (by rfl) (ae_ (by rfl) (by rfl) (.inr ⟨by rfl, by rfl, by rfl⟩) g_ va_ (bJ_ (l := [aO_, p]) (by simp) (by simp [aB_, show (Lb aO_).length = 4 from rfl]; omega)) ?_); rintro _ _ ⟨rfl, rfl⟩; refine ⟨sub_, ?_⟩
     refine aM_ o_ (by rfl) (by rfl) (by rfl) v_ v_ h_ g_ rfl g_ c_ (by rfl) le_ v_ ?_
     iterate 2 (refine dR_S o_ (by rfl) (by rfl) v_ ?_)
     refine aL_ ?_
     refine ⟨o7, ?_, ?_, ?_⟩
     ·exact ho7
     ·exact cv_
     ·(try dsimp only); (try rw [Store.set_set]); exact sub_
    refine bm_ o_ (by rfl) (by rfl) (by rfl) g_ gl_ sub_ fun o7 ho7 => ?_
    repeat (rw [an_] at ho7; obtain ⟨_, ho7⟩ := ho7)
    refine dR_X o_ (by rfl) (by rfl) (aD_ (by rfl) g_ g_ (by rfl) (by rfl) h_ c2_ (by decide) ⟨sub_, ?_⟩)
    refine dR_X o_ (by rfl) (by rfl) (ae_ (by rfl) (by rfl) (.inr ⟨by rfl, by rfl, by rfl⟩) g_ va_ (bJ_ (l := [aO_, p]) (by simp) (by simp [aB_, show (Lb aO_).length = 4 from rfl]; omega)) ?_); rintro _ _ ⟨rfl, rfl⟩; refine ⟨sub_, ?_⟩
    refine aM_ o_ (by rfl) (by rfl) (by rfl) v_ v_ h_ g_ rfl g_ c_ (by rfl) le_ v_ ?_
    iterate 2 (refine dR_S o_ (by rfl) (by rfl) v_ ?_)
    refine aL_ ?_
    refine ⟨o7, ?_, ?_, ?_⟩
    ·exact ho7
    ·exact cv_
    ·(try dsimp only); (try rw [Store.set_set]); exact sub_
   refine ck_ ?_ ?_
   ·refine dR_X o_ (by rfl) (by rfl) (aD_ (by rfl) g_ g_ (by rfl) (by rfl) h_ c2_ (by decide) ⟨sub_, ?_⟩)
    refine ck_ ?_ ?_
    ·refine dR_X o_ (by rfl) (by rfl) (ae_ (by rfl) (by rfl) (.inr ⟨by rfl, by rfl, by rfl⟩) g_ va_ (bn_ (by omega) hs hks) ?_); rintro _ _ ⟨rfl, rfl⟩; refine ⟨sub_, ?_⟩
     refine ck_ ?_ ?_
     ·refine dR_X o_ (by rfl) (by rfl) (ae_ (by rfl) (by rfl) (.inr ⟨by rfl, by rfl, by rfl⟩) g_ va_ (bJ_ (l := [aO_, p]) (by simp) (by simp [aB_, show (Lb aO_).length = 4 from rfl]; omega)) ?_); rintro _ _ ⟨rfl, rfl⟩; refine ⟨sub_, ?_⟩
      refine bm_ o_ (by rfl) (by rfl) (by rfl) g_ gl_ sub_ fun o7 ho7 => ?_
      repeat (rw [an_] at ho7; obtain ⟨_, ho7⟩ := ho7)
      refine aM_ o_ (by rfl) (by rfl) (by rfl) v_ v_ h_ g_ rfl g_ c_ (by rfl) le_ v_ ?_
      iterate 2 (refine dR_S o_ (by rfl) (by rfl) v_ ?_)
      refine aL_ ?_
      refine ⟨o7, ?_, ?_, ?_⟩
      ·exact ho7
      ·exact cv_
      ·(try dsimp only); (try rw [Store.set_set]); exact sub_
     refine bm_ o_ (by rfl) (by rfl) (by rfl) g_ gl_ sub_ fun o7 ho7 => ?_
     repeat (rw [an_] at ho7; obtain ⟨_, ho7⟩ := ho7)
     refine dR_X o_ (by rfl) (by rfl) (ae_ (by rfl) (by rfl) (.inr ⟨by rfl, by rfl, by rfl⟩) g_ va_ (bJ_ (l := [aO_, p]) (by simp) (by simp [aB_, show (Lb aO_).length = 4 from rfl]; omega)) ?_); rintro _ _ ⟨rfl, rfl⟩; refine ⟨sub_, ?_⟩
     refine aM_ o_ (by rfl) (by rfl) (by rfl) v_ v_ h_ g_ rfl g_ c_ (by rfl) le_ v_ ?_
     iterate 2 (refine dR_S o_ (by rfl) (by rfl) v_ ?_)
     refine aL_ ?_
     refine ⟨o7, ?_, ?_, ?_⟩
     ·exact ho7
     ·exact cv_
     ·(try dsimp only); (try rw [Store.set_set]); exact sub_
    refine bm_ o_ (by rfl) (by rfl) (by rfl) g_ gl_ sub_ fun o7 ho7 => ?_
    repeat (rw [an_] at ho7; obtain ⟨_, ho7⟩ := ho7)
    refine dR_X o_ (by rfl) (by rfl) (ae_ (by rfl) (by rfl) (.inr ⟨by rfl, by rfl, by rfl⟩) g_ va_ (bn_ (by omega) hs hks) ?_); rintro _ _ ⟨rfl, rfl⟩; refine ⟨sub_, ?_⟩
    refine dR_X o_ (by rfl) (by rfl) (ae_ (by rfl) (by rfl) (.inr ⟨by rfl, by rfl, by rfl⟩) g_ va_ (bJ_ (l := [aO_, p]) (by simp) (by simp [aB_, show (Lb aO_).length = 4 from rfl]; omega)) ?_); rintro _ _ ⟨rfl, rfl⟩; refine ⟨sub_, ?_⟩
    refine aM_ o_ (by rfl) (by rfl) (by rfl) v_ v_ h_ g_ rfl g_ c_ (by rfl) le_ v_ ?_
    iterate 2 (refine dR_S o_ (by rfl) (by rfl) v_ ?_)
    refine aL_ ?_
    refine ⟨o7, ?_, ?_, ?_⟩
    ·exact ho7
    ·exact cv_
    ·(try dsimp only); (try rw [Store.set_set]); exact sub_
   refine bm_ o_ (by rfl) (by rfl) (by rfl) g_ gl_ sub_ fun o7 ho7 => ?_
   repeat (rw [an_] at ho7; obtain ⟨_, ho7⟩ := ho7)
   refine ck_ ?_ ?_
   ·refine dR_X o_ (by rfl) (by rfl) (ae_ (by rfl) (by rfl) (.inr ⟨by rfl, by rfl, by rfl⟩) g_ va_ (bn_ (by omega) hs hks) ?_); rintro _ _ ⟨rfl, rfl⟩; refine ⟨sub_, ?_⟩
    refine dR_X o_ (by rfl) (by rfl) (aD_ (by rfl) g_ g_ (by rfl) (by rfl) h_ c2_ (by decide) ⟨sub_, ?_⟩)
    refine dR_X o_ (by rfl) (by rfl) (ae_ (by rfl) (by rfl) (.inr ⟨by rfl, by rfl, by rfl⟩) g_ va_ (bJ_ (l := [aO_, p]) (by simp) (by simp [aB_, show (Lb aO_).length = 4 from rfl]; omega)) ?_); rintro _ _ ⟨rfl, rfl⟩; refine ⟨sub_, ?_⟩
    refine aM_ o_ (by rfl) (by rfl) (by rfl) v_ v_ h_ g_ rfl g_ c_ (by rfl) le_ v_ ?_
    iterate 2 (refine dR_S o_ (by rfl) (by rfl) v_ ?_)
    refine aL_ ?_
    refine ⟨o7, ?_, ?_, ?_⟩
    ·exact ho7
    ·exact cv_
    ·(try dsimp only); (try rw [Store.set_set]); exact sub_
   refine dR_X o_ (by rfl) (by rfl) (aD_ (by rfl) g_ g_ (by rfl) (by rfl) h_ c2_ (by decide) ⟨sub_, ?_⟩)
   refine dR_X o_ (by rfl) (by rfl) (ae_ (by rfl) (by rfl) (.inr ⟨by rfl, by rfl, by rfl⟩) g_ va_ (bn_ (by omega) hs hks) ?_); rintro _ _ ⟨rfl, rfl⟩; refine ⟨sub_, ?_⟩
   refine dR_X o_ (by rfl) (by rfl) (ae_ (by rfl) (by rfl) (.inr ⟨by rfl, by rfl, by rfl⟩) g_ va_ (bJ_ (l := [aO_, p]) (by simp) (by simp [aB_, show (Lb aO_).length = 4 from rfl]; omega)) ?_); rintro _ _ ⟨rfl, rfl⟩; refine ⟨sub_, ?_⟩
   refine aM_ o_ (by rfl) (by rfl) (by rfl) v_ v_ h_ g_ rfl g_ c_ (by rfl) le_ v_ ?_
   iterate 2 (refine dR_S o_ (by rfl) (by rfl) v_ ?_)
   refine aL_ ?_
   refine ⟨o7, ?_, ?_, ?_⟩
   ·exact ho7
   ·exact cv_
   ·(try dsimp only); (try rw [Store.set_set]); exact sub_
  refine ck_ ?_ ?_
  ·refine dR_X o_ (by rfl) (by rfl) (aD_ (by rfl) g_ g_ (by rfl) (by rfl) h_ c2_ (by decide) ⟨sub_, ?_⟩)
   refine ck_ ?_ ?_
   ·refine dR_X o_ (by rfl) (by rfl) (ae_ (by rfl) (by rfl) (.inr ⟨by rfl, by rfl, by rfl⟩) g_ va_ (l0_ (a := a) (b := b) (by omega) hs (by omega) (by omega)) ?_); rintro _ _ ⟨rfl, rfl⟩; refine ⟨sub_, ?_⟩
    rw [hq]
    refine ck_ ?_ ?_
    ·refine dR_X o_ (by rfl) (by rfl) (ae_ (by rfl) (by rfl) (.inr ⟨by rfl, by rfl, by rfl⟩) g_ va_ (bn_ (by omega) hs hks) ?_); rintro _ _ ⟨rfl, rfl⟩; refine ⟨sub_, ?_⟩
     refine ck_ ?_ ?_
     ·refine dR_X o_ (by rfl) (by rfl) (ae_ (by rfl) (by rfl) (.inr ⟨by rfl, by rfl, by rfl⟩) g_ va_ (bJ_ (l := [aO_, p]) (by simp) (by simp [aB_, show (Lb aO_).length = 4 from rfl]; omega)) ?_); rintro _ _ ⟨rfl, rfl⟩; refine ⟨sub_, ?_⟩
      refine bm_ o_ (by rfl) (by rfl) (by rfl) g_ gl_ sub_ fun o7 ho7 => ?_
      repeat (rw [an_] at ho7; obtain ⟨_, ho7⟩ := ho7)
      refine aM_ o_ (by rfl) (by rfl) (by rfl) v_ v_ h_ g_ rfl g_ c_ (by rfl) le_ v_ ?_
      iterate 2 (refine dR_S o_ (by rfl) (by rfl) v_ ?_)
      refine aL_ ?_
      refine ⟨o7, ?_, ?_, ?_⟩
      ·exact ho7
      ·exact cv_
      ·(try dsimp only); (try rw [Store.set_set]); exact sub_
     refine bm_ o_ (by rfl) (by rfl) (by rfl) g_ gl_ sub_ fun o7 ho7 => ?_
     repeat (rw [an_] at ho7; obtain ⟨_, ho7⟩ := ho7)
     refine dR_X o_ (by rfl) (by rfl) (ae_ (by rfl) (by rfl) (.inr ⟨by rfl, by rfl, by rfl⟩) g_ va_ (bJ_ (l := [aO_, p]) (by simp) (by simp [aB_, show (Lb aO_).length = 4 from rfl]; omega)) ?_); rintro _ _ ⟨rfl, rfl⟩; refine ⟨sub_, ?_⟩
     refine aM_ o_ (by rfl) (by rfl) (by rfl) v_ v_ h_ g_ rfl g_ c_ (by rfl) le_ v_ ?_
     iterate 2 (refine dR_S o_ (by rfl) (by rfl) v_ ?_)
     refine aL_ ?_
     refine ⟨o7, ?_, ?_, ?_⟩
     ·exact ho7
     ·exact cv_
     ·(try dsimp only); (try rw [Store.set_set]); exact sub_
    refine bm_ o_ (by rfl) (by rfl) (by rfl) g_ gl_ sub_ fun o7 ho7 => ?_
    repeat (rw [an_] at ho7; obtain ⟨_, ho7⟩ := ho7)
    refine dR_X o_ (by rfl) (by rfl) (ae_ (by rfl) (by rfl) (.inr ⟨by rfl, by rfl, by rfl⟩) g_ va_ (bn_ (by omega) hs hks) ?_); rintro _ _ ⟨rfl, rfl⟩; refine ⟨sub_, ?_⟩
    refine dR_X o_ (by rfl) (by rfl) (ae_ (by rfl) (by rfl) (.inr ⟨by rfl, by rfl, by rfl⟩) g_ va_ (bJ_ (l := [aO_, p]) (by simp) (by simp [aB_, show (Lb aO_).length = 4 from rfl]; omega)) ?_); rintro _ _ ⟨rfl, rfl⟩; refine ⟨sub_, ?_⟩
    refine aM_ o_ (by rfl) (by rfl) (by rfl) v_ v_ h_ g_ rfl g_ c_ (by rfl) le_ v_ ?_
    iterate 2 (refine dR_S o_ (by rfl) (by rfl) v_ ?_)
    refine aL_ ?_
    refine ⟨o7, ?_, ?_, ?_⟩
    ·exact ho7
    ·exact cv_
    ·(try dsimp only); (try rw [Store.set_set]); exact sub_
   refine bm_ o_ (by rfl) (by rfl) (by rfl) g_ gl_ sub_ fun o7 ho7 => ?_
   repeat (rw [an_] at ho7; obtain ⟨_, ho7⟩ := ho7)
   refine dR_X o_ (by rfl) (by rfl) (ae_ (by rfl) (by rfl) (.inr ⟨by rfl, by rfl, by rfl⟩) g_ va_ (l0_ (a := a) (b := b) (by omega) hs (by omega) (by omega)) ?_); rintro _ _ ⟨rfl, rfl⟩; refine ⟨sub_, ?_⟩
   rw [hq]
   refine dR_X o_ (by rfl) (by rfl) (ae_ (by rfl) (by rfl) (.inr ⟨by rfl, by rfl, by rfl⟩) g_ va_ (bn_ (by omega) hs hks) ?_); rintro _ _ ⟨rfl, rfl⟩; refine ⟨sub_, ?_⟩
   refine dR_X o_ (by rfl) (by rfl) (ae_ (by rfl) (by rfl) (.inr ⟨by rfl, by rfl, by rfl⟩) g_ va_ (bJ_ (l := [aO_, p]) (by simp) (by simp [aB_, show (Lb aO_).length = 4 from rfl]; omega)) ?_); rintro _ _ ⟨rfl, rfl⟩; refine ⟨sub_, ?_⟩
   refine aM_ o_ (by rfl) (by rfl) (by rfl) v_ v_ h_ g_ rfl g_ c_ (by rfl) le_ v_ ?_
   iterate 2 (refine dR_S o_ (by rfl) (by rfl) v_ ?_)
   refine aL_ ?_
   refine ⟨o7, ?_, ?_, ?_⟩
   ·exact ho7
   ·exact cv_
   ·(try dsimp only); (try rw [Store.set_set]); exact sub_
  refine bm_ o_ (by rfl) (by rfl) (by rfl) g_ gl_ sub_ fun o7 ho7 => ?_
  repeat (rw [an_] at ho7; obtain ⟨_, ho7⟩ := ho7)
  refine ck_ ?_ ?_
  ·refine dR_X o_ (by rfl) (by rfl) (ae_ (by rfl) (by rfl) (.inr ⟨by rfl, by rfl, by rfl⟩) g_ va_ (l0_ (a := a) (b := b) (by omega) hs (by omega) (by omega)) ?_); rintro _ _ ⟨rfl, rfl⟩; refine ⟨sub_, ?_⟩
   rw [hq]
   refine ck_ ?_ ?_
   ·refine dR_X o_ (by rfl) (by rfl) (ae_ (by rfl) (by rfl) (.inr ⟨by rfl, by rfl, by rfl⟩) g_ va_ (bn_ (by omega) hs hks) ?_); rintro _ _ ⟨rfl, rfl⟩; refine ⟨sub_, ?_⟩
    refine dR_X o_ (by rfl) (by rfl) (aD_ (by rfl) g_ g_ (by rfl) (by rfl) h_ c2_ (by decide) ⟨sub_, ?_⟩)
    refine dR_X o_ (by rfl) (by rfl) (ae_ (by rfl) (by rfl) (.inr ⟨by rfl, by rfl, by rfl⟩) g_ va_ (bJ_ (l := [aO_, p]) (by simp) (by simp [aB_, show (Lb aO_).length = 4 from rfl]; omega)) ?_); rintro _ _ ⟨rfl, rfl⟩; refine ⟨sub_, ?_⟩
    refine aM_ o_ (by rfl) (by rfl) (by rfl) v_ v_ h_ g_ rfl g_ c_ (by rfl) le_ v_ ?_
    iterate 2 (refine dR_S o_ (by rfl) (by rfl) v_ ?_)
    refine aL_ ?_
    refine ⟨o7, ?_, ?_, ?_⟩
    ·exact ho7
    ·exact cv_
    ·(try dsimp only); (try rw [Store.set_set]); exact sub_
   refine dR_X o_ (by rfl) (by rfl) (aD_ (by rfl) g_ g_ (by rfl) (by rfl) h_ c2_ (by decide) ⟨sub_, ?_⟩)
   refine dR_X o_ (by rfl) (by rfl) (ae_ (by rfl) (by rfl) (.inr ⟨by rfl, by rfl, by rfl⟩) g_ va_ (bn_ (by omega) hs hks) ?_); rintro _ _ ⟨rfl, rfl⟩; refine ⟨sub_, ?_⟩
   refine dR_X o_ (by rfl) (by rfl) (ae_ (by rfl) (by rfl) (.inr ⟨by rfl, by rfl, by rfl⟩) g_ va_ (bJ_ (l := [aO_, p]) (by simp) (by simp [aB_, show (Lb aO_).length = 4 from rfl]; omega)) ?_); rintro _ _ ⟨rfl, rfl⟩; refine ⟨sub_, ?_⟩
   refine aM_ o_ (by rfl) (by rfl) (by rfl) v_ v_ h_ g_ rfl g_ c_ (by rfl) le_ v_ ?_
   iterate 2 (refine dR_S o_ (by rfl) (by rfl) v_ ?_)
   refine aL_ ?_
   refine ⟨o7, ?_, ?_, ?_⟩
   ·exact ho7
   ·exact cv_
   ·(try dsimp only); (try rw [Store.set_set]); exact sub_
  refine dR_X o_ (by rfl) (by rfl) (aD_ (by rfl) g_ g_ (by rfl) (by rfl) h_ c2_ (by decide) ⟨sub_, ?_⟩)
  refine dR_X o_ (by rfl) (by rfl) (ae_ (by rfl) (by rfl) (.inr ⟨by rfl, by rfl, by rfl⟩) g_ va_ (l0_ (a := a) (b := b) (by omega) hs (by omega) (by omega)) ?_); rintro _ _ ⟨rfl, rfl⟩; refine ⟨sub_, ?_⟩
  rw [hq]
  refine dR_X o_ (by rfl) (by rfl) (ae_ (by rfl) (by rfl) (.inr ⟨by rfl, by rfl, by rfl⟩) g_ va_ (bn_ (by omega) hs hks) ?_); rintro _ _ ⟨rfl, rfl⟩; refine ⟨sub_, ?_⟩
  refine dR_X o_ (by rfl) (by rfl) (ae_ (by rfl) (by rfl) (.inr ⟨by rfl, by rfl, by rfl⟩) g_ va_ (bJ_ (l := [aO_, p]) (by simp) (by simp [aB_, show (Lb aO_).length = 4 from rfl]; omega)) ?_); rintro _ _ ⟨rfl, rfl⟩; refine ⟨sub_, ?_⟩
  refine aM_ o_ (by rfl) (by rfl) (by rfl) v_ v_ h_ g_ rfl g_ c_ (by rfl) le_ v_ ?_
  iterate 2 (refine dR_S o_ (by rfl) (by rfl) v_ ?_)
  refine aL_ ?_
  refine ⟨o7, ?_, ?_, ?_⟩
  ·exact ho7
  ·exact cv_
  ·(try dsimp only); (try rw [Store.set_set]); exact sub_
 ·rintro p7 h7
  simp only [ar_, au_]
  refine ab_ ?_
  have hne7 := qy_ (σ := σ) h h7
  have R := hfw
  refine aa_ kr_ ?_
  iterate 6 (refine aL_S rfl rfl v_ ?_)
  refine ac_ ?_
  refine ab_ ?_
  refine aa_ kr_ ?_
  iterate 3 (refine aL_S rfl rfl v_ ?_)
  refine aL_X rfl rfl (ae_ rfl rfl (.inr ⟨rfl, rfl, rfl⟩) g_ va_ (dM_ (h.set h7) (by omega)) ?_); rintro _ τ1 ⟨rfl, hC1, hF1⟩
  refine ac_ ?_
  have h17 := hF1.1 p7 _ hne7 (Store.set_get ..)
  refine bp_ (ι := Store) (fun τ2 => WC τ2 o l t (ws ++ wIf (fewS l q) 3 (keyP p) ++ wIf (rckS l q) 4 (keyP p)) ∧ WF o τ1 τ2 ∧ τ2.heap p7 = some (.cells (sPrp q).cells)) (fun τ2 => [(0, .ref o 0), (1, vStr p), (7, .ref p7 0), (9, vStr (keyP p))]) (fun τ2 => τ2) ?_ ?_
  ·rcases hfb with rfl | rfl
   ·have R := h17
    refine aG_ (.op 0 0 (.op 1 0 (.op 2 0 (.op 3 0 (.op 4 0 (.op 5 0 (.op 6 0 (.op 11 0 (.op 7 1 (.op 8 0 (.op 9 0 (.op 10 0 (.op 12 2 .nil))))))))))))) Tryz.mixed kr_ ?_
    iterate 4 (refine dR_S o_ (by rfl) (by rfl) v_ ?_)
    first | (refine bZ_ o_ (by rfl) wn_ ?_) | (refine eS_ o_ (by rfl) (as_ (by rfl) (by rfl) v_ (by rfl)) v_ ?_)
    first | (refine bZ_ o_ (by rfl) wn_ ?_) | (refine eS_ o_ (by rfl) (as_ (by rfl) (by rfl) v_ (by rfl)) v_ ?_)
    first | (refine bZ_ o_ (by rfl) wn_ ?_) | (refine eS_ o_ (by rfl) (as_ (by rfl) (by rfl) v_ (by rfl)) v_ ?_)
    (refine dR_S o_ (by rfl) (by rfl) v_ ?_)
    first | (refine pp_ o_ (by rfl) wn_ sub_ ?_) | (refine dR_X o_ (by rfl) (as_ (by rfl) (by rfl) v_ (by rfl)) (ae_ (by rfl) (by rfl) (.inr ⟨by rfl, by rfl, by rfl⟩) g_ va_ (l9_ (by omega)) ?_); rintro _ _ ⟨rfl, rfl⟩; refine ⟨sub_, ?_⟩)
    first | (refine bZ_ o_ (by rfl) wn_ ?_) | (refine eS_ o_ (by rfl) (as_ (by rfl) (by rfl) v_ (by rfl)) v_ ?_)
    first | (refine bZ_ o_ (by rfl) wn_ ?_) | (refine eS_ o_ (by rfl) (as_ (by rfl) (by rfl) v_ (by rfl)) v_ ?_)
    (refine dR_S o_ (by rfl) (by rfl) v_ ?_)
    refine dR_T o_ (by rfl) (by rfl) (ae_ (by rfl) (by rfl) (.inr ⟨by rfl, by rfl, by rfl⟩) g_ va_ (dM_ hC1 (by rw [List.length_append]; have := g1 true; have := g1 false; omega)) ?_); rintro _ τ2 ⟨rfl, hC2, hF2⟩
    refine aL_ ?_
    have h27 := hF2.1 p7 _ hne7 h17
    have hC2' : WC τ2 o l t (ws ++ wIf (fewS l q) 3 (keyP p) ++ wIf (rckS l q) 4 (keyP p)) := by rw [hrs, hfs]; exact hC2
    refine ⟨τ2, ?_, ?_, ?_⟩
    ·exact ⟨hC2', hF2, h27⟩
    ·exact cv_
    ·exact Store.Wk.refl _
   ·have R := h17
    refine aG_ (.op 0 0 (.op 1 0 (.op 2 0 (.op 3 0 (.op 4 0 (.op 5 0 (.op 6 0 (.op 11 0 (.op 7 1 (.op 8 0 (.op 9 0 (.op 10 0 (.op 12 2 .nil))))))))))))) Tryz.mixed kr_ ?_
    iterate 4 (refine dR_S o_ (by rfl) (by rfl) v_ ?_)
    first | (refine bZ_ o_ (by rfl) wn_ ?_) | (refine eS_ o_ (by rfl) (as_ (by rfl) (by rfl) v_ (by rfl)) v_ ?_)
    first | (refine bZ_ o_ (by rfl) wn_ ?_) | (refine eS_ o_ (by rfl) (as_ (by rfl) (by rfl) v_ (by rfl)) v_ ?_)
    first | (refine bZ_ o_ (by rfl) wn_ ?_) | (refine eS_ o_ (by rfl) (as_ (by rfl) (by rfl) v_ (by rfl)) v_ ?_)
    (refine dR_S o_ (by rfl) (by rfl) v_ ?_)
    first | (refine pp_ o_ (by rfl) wn_ sub_ ?_) | (refine dR_X o_ (by rfl) (as_ (by rfl) (by rfl) v_ (by rfl)) (ae_ (by rfl) (by rfl) (.inr ⟨by rfl, by rfl, by rfl⟩) g_ va_ (l9_ (by omega)) ?_); rintro _ _ ⟨rfl, rfl⟩; refine ⟨sub_, ?_⟩)
    first | (refine bZ_ o_ (by rfl) wn_ ?_) | (refine eS_ o_ (by rfl) (as_ (by rfl) (by rfl) v_ (by rfl)) v_ ?_)
    first | (refine bZ_ o_ (by rfl) wn_ ?_) | (refine eS_ o_ (by rfl) (as_ (by rfl) (by rfl) v_ (by rfl)) v_ ?_)
    (refine dR_S o_ (by rfl) (by rfl) v_ ?_)
    refine dR_T o_ (by rfl) (by rfl) (ae_ (by rfl) (by rfl) (.inr ⟨by rfl, by rfl, by rfl⟩) g_ va_ (dM_ hC1 (by rw [List.length_append]; have := g1 true; have := g1 false; omega)) ?_); rintro _ τ2 ⟨rfl, hC2, hF2⟩
    refine aL_ ?_
    have h27 := hF2.1 p7 _ hne7 h17
    have hC2' : WC τ2 o l t (ws ++ wIf (fewS l q) 3 (keyP p) ++ wIf (rckS l q) 4 (keyP p)) := by rw [hrs, hfs]; exact hC2
    refine ⟨τ2, ?_, ?_, ?_⟩
    ·exact ⟨hC2', hF2, h27⟩
    ·exact cv_
    ·exact Store.Wk.refl _
  ·rintro τ2 ⟨hC2, hF2, h27⟩
   simp only [ar_, au_]
   refine ab_ ?_
   have R := h27
   refine aa_ kr_ ?_
   iterate 2 (refine aL_S rfl rfl v_ ?_)
   refine aL_X rfl rfl (ae_ rfl rfl (.inr ⟨rfl, rfl, rfl⟩) g_ va_ (l1_) ?_); rintro _ _ ⟨rfl, rfl⟩
   iterate 2 (refine aL_S rfl rfl v_ ?_)
   refine aC_ rfl rfl v_ rfl vg_ ?_
   refine aC_ rfl rfl v_ rfl vg_ ?_
   refine aC_ rfl rfl v_ rfl vg_ ?_
   refine aC_ rfl rfl v_ rfl vg_ ?_
   refine aC_ rfl rfl v_ rfl vg_ ?_
   refine aC_ rfl rfl v_ rfl vg_ ?_
   refine aC_ rfl rfl v_ rfl vg_ ?_
   refine aC_ rfl rfl v_ rfl vg_ ?_
   iterate 2 (refine aL_S rfl rfl v_ ?_)
   refine aL_X rfl rfl (ae_ rfl rfl (.inr ⟨rfl, rfl, rfl⟩) g_ va_ (dM_ hC2 (by rw [List.length_append, List.length_append]; have := g1 (fewS l q); have := g2 (rckS l q); omega)) ?_); rintro _ τ3 ⟨rfl, hC3, hF3⟩
   refine ac_ ?_
   refine aa_ kr_ ?_
   iterate 3 (refine aL_S rfl rfl v_ ?_)
   refine aL_X rfl rfl (ae_ rfl rfl (.inr ⟨rfl, rfl, rfl⟩) g_ va_ (kT_ hC3 (by omega) (by omega) (fun x hx => (hks x hx).1)) ?_); rintro _ _ ⟨rfl, rfl⟩
   iterate 2 (refine aL_S rfl rfl v_ ?_)
   refine aL_X rfl rfl (ae_ rfl rfl (.inr ⟨rfl, rfl, rfl⟩) g_ va_ (dM_ hC3 (by have k1 := g1 (fewS l q); have k2 := g2 (rckS l q); have k3 := g3 (!fX_ q && decide (q.r + q.w ≤ q.n)); simp only [List.length_append]; omega)) ?_); rintro _ τ4 ⟨rfl, hC4, hF4⟩
   refine ac_ ?_
   refine aP_ v_ (Store.Wk.refl _) ?_
   skip
   refine ⟨rfl, ?_, ((((WF.refl.alloc h7 hne7).trans hF1).trans hF2).trans hF3).trans hF4⟩
   rw [hbk, bktQ, hwk]
   rw [List.append_assoc, List.append_assoc, List.append_assoc] at hC4
   exact hC4
end Go.Proofs.YtkcmbjodladflaaGreatDoor
end

section
set_option linter.all false
set_option maxRecDepth 100000
namespace Go.Proofs.YtkcmbjodladflaaGreatDoor
open Go.Ab
def nth (p : List ByteArray) (k : Nat) : ByteArray := (p[k]?).getD ⟨#[]⟩
def bkN (x : Ent) : Option ByteArray := if bi_ x.key = true then some (cJ_ [nth (aH_ x.key) 1, nth (aH_ x.key) 2]) else none
def bW_ (l : List Ent) : List ByteArray := bC_ (bK_ ((undS l aO_).filterMap bkN))
theorem kg_ {l : List Ent} {x : Ent} (hx : x ∈ undS l aO_) (hk : bi_ x.key = true) : (aH_ x.key).length = 4 := by
 have hp := jQ_ hx
 have e0 : aO_ ++ ⟨#[47]⟩ = B (Lb aO_ ++ [47]) := by rw [← df_, B_Lb]; rfl
 rw [e0] at hp
 obtain ⟨r, hr⟩ := gR_.1 hp
 have hke : x.key = B (Lb aO_ ++ 47 :: Lb (B r)) := by apply fn_; rw [hr, Lb_B, Lb_B]; simp
 have h1 := (lE_ (p := aH_ x.key) hk).2.2
 have h2 : (aH_ x.key).headD ⟨#[]⟩ = aO_ := by rw [hke, hS_ (by decide)]; rfl
 rw [h1, h2]; rfl
theorem lX_ {p : List ByteArray} {k : Nat} (h : k < p.length) : p[k]? = some (nth p k) := by unfold nth; rw [List.getElem?_eq_getElem h]; rfl
theorem js_ {s : ByteArray} (k : Nat) : (nth (aH_ s) k).size ≤ s.size := by
 unfold nth
 cases h : (aH_ s)[k]? with
 |none => exact Nat.zero_le _
 |some x => exact (c9_ (List.mem_of_getElem? h)).2
theorem fv_ (l : List Ent) : (bW_ l).length ≤ l.length := Nat.le_trans (jt_ _) (Nat.le_trans (List.length_filterMap_le ..) (dL_ l aO_))
set_option maxHeartbeats 2000000 in
theorem hq_ {l : List Ent} {t : Bool} {σ : Store} (hl : l.length ≤ 1000) (hs : ∀ x ∈ l, EntSm x) (hks : ∀ x ∈ l, x.key.size ≤ 400000) : ao_ Tryz.prog 71 [.sl 4 (l.map sEnt) t] σ fun v σ' => v = .sl 1 ((bW_ l).map vStr) false ∧ σ = σ' := by
 obtain ⟨U, hU⟩ : ∃ U, undS l aO_ = U := ⟨_, rfl⟩
 have hUl := dL_ l aO_
 have hUs := mF_ (s := aO_) hs
 have hUk : ∀ x ∈ undS l aO_, bi_ x.key = true → (aH_ x.key).length = 4 := fun x hx => kg_ hx
 have hsub : ∀ x ∈ undS l aO_, x ∈ l := fun x hx => (List.mem_filter.1 hx).1
 rw [hU] at hUl hUs hUk hsub
 have hall : bC_ (bK_ (U.filterMap bkN)) = bW_ l := by rw [← hU]; rfl
 refine aj_ Tryz.func71 rfl Tryz.ntmps71 (congrArg Array.toList Tryz.results71) (by simp only [List.length_cons, List.length_nil]; decide) ?_; simp only [af_, ak_, Nat.reduceAdd]
 refine ab_ ?_
 refine aa_ kr_ ?_
 (refine aL_S rfl rfl v_ ?_)
 refine ac_ ?_
 refine ab_ ?_
 refine aa_ kr_ ?_
 (refine aL_S rfl rfl v_ ?_)
 refine ac_ ?_
 refine ab_ ?_
 refine ab_ ?_
 refine aa_ kr_ ?_
 (refine aL_S rfl rfl v_ ?_)
 refine aL_X rfl rfl (ae_ rfl rfl (.inr ⟨rfl, rfl, rfl⟩) g_ va_ (hb_ (s := aO_) (by omega) (by decide)) ?_); rintro _ _ ⟨rfl, rfl⟩
 iterate 2 (refine aL_S rfl rfl v_ ?_)
 refine ac_ ?_
 rw [hU]
 refine al_ ?_
 refine ap_ (ι := Store × AVal × Nat) (fun ⟨τ, g, k⟩ => U.length - k) (fun ⟨τ, g, k⟩ => k ≤ U.length ∧ CBp σ τ 1 (((U.take k).filterMap bkN).map vStr) g) (fun ⟨τ, g, k⟩ => [(3, g), (8, .sl 4 (U.map sEnt) false), (9, vInt U.length), (10, vInt k)]) (fun ⟨τ, g, k⟩ => τ) (σ, vNil, 0) ?_ ?_ ?_ ?_
 ·exact ⟨Nat.zero_le _, .inl ⟨rfl, rfl, rfl⟩⟩
 ·exact cv_
 ·exact Store.Wk.refl _
 rintro ⟨τ, g, k⟩ ⟨hk, hC⟩
 simp only [ar_, au_]
 refine ab_ ?_
 refine aa_ kr_ ?_
 (refine aL_S rfl rfl v_ ?_)
 refine ac_ ?_
 refine ab_ ?_
 refine ad_ v_ (fun hc3 => ?_) (fun hc3 => ?_)
 ·replace hc3 := nm_ hc3
  refine ah_ ?_
  refine ab_ ?_
  refine al_ ?_
  refine ab_ ?_
  obtain ⟨x, hx⟩ := aA_ (l := U) (k := k) (by omega)
  have hxm := List.mem_of_getElem? hx
  have hsn := gQ_ (f := bkN) hx
  have hle : ((U.take k).filterMap bkN).length ≤ U.length := Nat.le_trans (List.length_filterMap_le ..) (by rw [List.length_take]; omega)
  have hkz := hks x (hsub x hxm)
  have z1 := js_ (s := x.key) 1
  have z2 := js_ (s := x.key) 2
  have R := hx
  refine aa_ kr_ ?_
  iterate 2 (refine aL_S rfl rfl v_ ?_)
  refine aQ_ rfl rfl rfl g_ gl_ fun o5 ho5 => ?_
  repeat (rw [an_] at ho5; obtain ⟨_, ho5⟩ := ho5)
  refine av_ rfl rfl rfl v_ v_ h_ g_ rfl g_ c_ (by rfl) le_ v_ ?_
  refine ac_ ?_
  skip
  have n5 := b5_ hC ho5
  have hC1 := cr_ (x := .cells [.lit (.string ⟨#[]⟩), vInt 0, .lit (.string ⟨#[]⟩), .lit (.string ⟨#[]⟩)]) (y := .cells (sEnt x).cells) hC ho5
  refine ab_ ?_
  refine aa_ kr_ ?_
  iterate 2 (refine aL_S rfl rfl v_ ?_)
  refine aL_X rfl rfl (ae_ rfl rfl (.inr ⟨rfl, rfl, rfl⟩) g_ va_ (gZ_ (by omega)) ?_); rintro _ _ ⟨rfl, rfl⟩
  (refine aL_S rfl rfl v_ ?_)
  refine ac_ ?_
  refine ab_ ?_
  refine aa_ kr_ ?_
  iterate 2 (refine aL_S rfl rfl v_ ?_)
  refine aL_X rfl rfl (ae_ rfl rfl (.inr ⟨rfl, rfl, rfl⟩) g_ va_ (eX_ (by omega)) ?_); rintro _ _ ⟨rfl, rfl⟩
  refine ac_ ?_
  refine ad_ v_ (fun hc6 => ?_) (fun hc6 => ?_)
  ·replace hc6 := nm_ hc6
   have h4 := hUk x hxm hc6
   have p1 := lX_ (p := aH_ x.key) (k := 1) (by omega)
   have p2 := lX_ (p := aH_ x.key) (k := 2) (by omega)
   have hbk : bkN x = some (cJ_ [nth (aH_ x.key) 1, nth (aH_ x.key) 2]) := by unfold bkN; rw [if_pos hc6]
   have hcov : (U.take (k + 1)).filterMap bkN = (U.take k).filterMap bkN ++ [cJ_ [nth (aH_ x.key) 1, nth (aH_ x.key) 2]] := by rw [hsn, hbk]; rfl
   have R := And.intro p1 p2
   refine aG_ (.op 0 0 (.op 1 0 (.op 2 0 (.op 3 0 (.op 4 0 (.op 5 0 (.op 6 0 (.op 7 1 (.op 8 1 (.op 9 1 (.op 10 2 (.op 11 0 .nil)))))))))))) Tryz.mixed kr_ ?_
   iterate 7 (refine dR_S o_ (by rfl) (by rfl) v_ ?_)
   refine dR_X o_ (by rfl) (by rfl) (aD_ (by rfl) g_ g_ (by rfl) (by rfl) h_ c2_ (by decide) ⟨sub_, ?_⟩)
   refine dR_X o_ (by rfl) (by rfl) (ae_ (by rfl) (by rfl) (.inr ⟨by rfl, by rfl, by rfl⟩) g_ va_ (bJ_ (l := [nth (aH_ x.key) 1, nth (aH_ x.key) 2]) (by simp) (by simp [aB_]; omega)) ?_); rintro _ _ ⟨rfl, rfl⟩; refine ⟨sub_, ?_⟩
   refine dR_X o_ (by rfl) (by rfl) (aD_ (by rfl) g_ g_ (by rfl) (by rfl) h_ c2_ (by decide) ⟨sub_, ?_⟩)
   refine dR_T o_ (by rfl) (by rfl) (bz_ (by rfl) g_ g_ hC1 va_ (fun y hy => by obtain ⟨s, _, rfl⟩ := List.mem_map.1 hy; rfl) va_ c_ (by simp; omega) fun a' σ' hC3 => ?_)
   rw [show ((U.take k).filterMap bkN).map vStr ++ [vStr (cJ_ [nth (aH_ x.key) 1, nth (aH_ x.key) 2])] = ((U.take k).filterMap bkN ++ [cJ_ [nth (aH_ x.key) 1, nth (aH_ x.key) 2]]).map vStr from by simp] at hC3
   obtain ⟨τ2, hC5, hs2⟩ := b2_ hC3 n5
   (refine dR_S o_ (by rfl) (by rfl) v_ ?_)
   refine aL_ ?_
   refine aa_ kr_ ?_
   iterate 2 (refine aL_S rfl rfl v_ ?_)
   refine ac_ ?_
   refine aJ_ (ι := Store × AVal × Nat) (i := ⟨τ, g, k⟩) (τ2, a', k + 1) ?_ ?_ ?_ ?_
   ·show U.length - (k + 1) < U.length - k; omega
   ·exact ⟨by show k + 1 ≤ U.length; omega, by rw [hcov]; exact hC5⟩
   ·exact cv_
   ·exact hs2.wk
  ·replace hc6 := nm_ hc6
   have hcov : (U.take (k + 1)).filterMap bkN = (U.take k).filterMap bkN := by rw [hsn]; unfold bkN; rw [if_neg (by simp [hc6])]; simp
   refine ah_ ?_
   refine aa_ kr_ ?_
   iterate 2 (refine aL_S rfl rfl v_ ?_)
   refine ac_ ?_
   refine aJ_ (ι := Store × AVal × Nat) (i := ⟨τ, g, k⟩) (τ, g, k + 1) ?_ ?_ ?_ ?_
   ·show U.length - (k + 1) < U.length - k; omega
   ·exact ⟨by show k + 1 ≤ U.length; omega, by rw [hcov]; exact hC⟩
   ·exact cv_
   ·exact sub_
 ·replace hc3 := nm_ hc3
  refine ax_ ?_
  refine ag_ ?_
  refine ag_ ?_
  refine aq_ ?_
  refine ab_ ?_
  obtain rfl : k = U.length := by omega
  rw [List.take_length] at hC
  have hle : (U.filterMap bkN).length ≤ U.length := List.length_filterMap_le ..
  refine aa_ kr_ ?_
  (refine aL_S rfl rfl v_ ?_)
  refine aL_X rfl rfl (ae_ rfl rfl (.inr ⟨rfl, rfl, rfl⟩) g_ va_ (g8_ hC (by omega)) ?_); rintro _ τ1 ⟨rfl, hC4⟩
  refine ac_ ?_
  refine ab_ ?_
  refine aa_ kr_ ?_
  (refine aL_S rfl rfl v_ ?_)
  refine aL_X rfl rfl (ae_ rfl rfl (.inr ⟨rfl, rfl, rfl⟩) g_ va_ (eg_ (ss := bK_ (U.filterMap bkN)) hC4 (by simp [bK_]; omega) (by refine Nat.le_trans (dO_ _) (by simp))) ?_); rintro _ _ ⟨rfl, rfl⟩
  (refine aL_S rfl rfl v_ ?_)
  refine ac_ ?_
  refine am_ ?_
  refine ai_ v_ (Store.Wk.refl _) ?_
  exact ⟨by rw [hall], rfl⟩
def limW (l : List Ent) (s : ByteArray) : List Wn := wIf (decide ((tenS l s).bytes = 0) || decide ((tenS l s).queue = 0) || (decide ((tenS l s).rate = 0) && decide ((tenS l s).burst = 0))) 7 (cJ_ [aR_, s])
def cM_ (l : List Ent) : List Wn := l.flatMap keyW ++ ((List.range 16).flatMap (ownW l) ++ evnW l) ++ (bW_ l).flatMap (bktW l) ++ (allS l).flatMap (limW l)
theorem fm_ {α : Type} {f : α → List Wn} {n : Nat} (h : ∀ x, (f x).length ≤ n) : ∀ l : List α, (l.flatMap f).length ≤ n * l.length
 |[] => Nat.zero_le _
 |x :: l => by have := fm_ h l; have := h x; rw [List.flatMap_cons, List.length_append, List.length_cons, Nat.mul_succ]; omega
theorem qM_ {l : List Ent} {s : ByteArray} (h : s ∈ allS l) : s.size ≤ 16 := by
 have := kR_.1 h
 unfold eY_ at this
 simp only [Bool.and_eq_true] at this
 exact (eB_ this.1).2
theorem k0_ {l : List Ent} {s : ByteArray} (hk : ∀ x ∈ l, x.key.size ≤ 1000) (h : s ∈ bW_ l) : s.size ≤ 4000 := by
 unfold bW_ at h
 rw [(dR_ _).2, List.mem_filterMap] at h
 obtain ⟨x, hx, hb⟩ := h
 have hxk := hk x (List.mem_filter.1 hx).1
 unfold bkN at hb
 split at hb
 ·injection hb with hb
  rw [← hb]
  have h1 := js_ (s := x.key) 1
  have h2 := js_ (s := x.key) 2
  simp only [cJ_, fM_, cK_, List.flatMap_cons, List.flatMap_nil, List.append_nil, List.length_append, List.length_cons, aB_]; omega
 ·cases hb
set_option maxHeartbeats 4000000 in
theorem oK_ {l : List Ent} {t : Bool} {σ : Store} (hl : l.length ≤ 1000) (hs : ∀ x ∈ l, EntSm x) (hks : ∀ x ∈ l, x.key.size ≤ 1000 ∧ x.value.size ≤ 400000) : ao_ Tryz.prog 28 [.sl 4 (l.map sEnt) t] σ fun v σ' => v = .sl 2 ((cM_ l).map sWn) false ∧ σ = σ' := by
 have hk4 : ∀ x ∈ l, x.key.size ≤ 400000 := fun x hx => by have := (hks x hx).1; omega
 have hk5 : ∀ x ∈ l, x.key.size ≤ 400000 ∧ x.value.size ≤ 400000 := fun x hx => by have := hks x hx; omega
 have hbl := fv_ l
 have hal := kQ_ l
 have l1 := cY_ (f := keyW) (fun x => bO_ _ _ _) l
 have l2 : ((List.range 16).flatMap (ownW l)).length ≤ 16 := by have := cY_ (f := ownW l) (fun x => bO_ _ _ _) (List.range 16); rwa [List.length_range] at this
 obtain ⟨W2, hW2⟩ : ∃ W2, l.flatMap keyW ++ ((List.range 16).flatMap (ownW l) ++ evnW l) = W2 := ⟨_, rfl⟩
 have w2 : W2.length ≤ 2000 := by have := lf_ l; rw [← hW2, List.length_append, List.length_append]; omega
 have hfin : cM_ l = W2 ++ (bW_ l).flatMap (bktW l) ++ (allS l).flatMap (limW l) := by rw [← hW2]; rfl
 have hbz : ∀ s ∈ bW_ l, s.size ≤ 4000 := fun s hs => k0_ (fun x hx => (hks x hx).1) hs
 have haz : ∀ s ∈ allS l, s.size ≤ 16 := fun s hs => qM_ hs
 have hatl : ∀ s ∈ allS l, eY_ l s = true := fun s hs => kR_.1 hs
 obtain ⟨bs, hbs⟩ : ∃ bs, bW_ l = bs := ⟨_, rfl⟩
 obtain ⟨ts, has⟩ : ∃ ts, allS l = ts := ⟨_, rfl⟩
 rw [hbs] at hbl hbz hfin
 rw [has] at hal haz hatl hfin
 refine aj_ Tryz.func28 rfl Tryz.ntmps28 (congrArg Array.toList Tryz.results28) (by simp only [List.length_cons, List.length_nil]; decide) ?_; simp only [af_, ak_, Nat.reduceAdd]
 refine ab_ ?_
 refine aa_ kr_ ?_
 (refine aL_S rfl rfl v_ ?_)
 refine ac_ ?_
 refine ab_ ?_
 refine aa_ kr_ ?_
 iterate 2 (refine aL_S rfl rfl v_ ?_)
 refine bb_ rfl rfl rfl v_ rfl g_ fun o12 ho12 => ?_
 repeat (rw [an_] at ho12; obtain ⟨_, ho12⟩ := ho12)
 (refine aL_S rfl rfl v_ ?_)
 refine ac_ ?_
 have hC0 : WC (σ.set o12 (.cells [.sl 4 (l.map sEnt) t, vNil])) o12 l t [] := ⟨_, none, Store.set_get .., .inr ⟨rfl, rfl, rfl⟩⟩
 refine ab_ ?_
 refine aa_ kr_ ?_
 (refine aL_S rfl rfl v_ ?_)
 refine aL_X rfl rfl (ae_ rfl rfl (.inr ⟨rfl, rfl, rfl⟩) g_ va_ (rC_ hC0 (by simp) (by omega) hk4) ?_); rintro _ τ1 ⟨rfl, hC1, hF1⟩
 refine ac_ ?_
 refine ab_ ?_
 refine aa_ kr_ ?_
 (refine aL_S rfl rfl v_ ?_)
 refine aL_X rfl rfl (ae_ rfl rfl (.inr ⟨rfl, rfl, rfl⟩) g_ va_ (nJ_ hC1 (by rw [List.nil_append]; omega) hl hs hk5) ?_); rintro _ τ2 ⟨rfl, hC2, hF2⟩
 refine ac_ ?_
 skip
 rw [List.nil_append, hW2] at hC2
 have hF := hF1.trans hF2
 refine ab_ ?_
 refine ab_ ?_
 refine aa_ kr_ ?_
 (refine aL_S rfl rfl v_ ?_)
 refine aL_X rfl rfl (ae_ rfl rfl (.inr ⟨rfl, rfl, rfl⟩) g_ va_ (hq_ hl hs hk4) ?_); rintro _ _ ⟨rfl, rfl⟩
 rw [hbs]
 iterate 2 (refine aL_S rfl rfl v_ ?_)
 refine ac_ ?_
 refine al_ ?_
 refine ap_ (ι := Store × Nat) (fun ⟨τ, k⟩ => bs.length - k) (fun ⟨τ, k⟩ => k ≤ bs.length ∧ WC τ o12 l t (W2 ++ (bs.take k).flatMap (bktW l)) ∧ WF o12 (σ.set o12 (.cells [.sl 4 (l.map sEnt) t, vNil])) τ) (fun ⟨τ, k⟩ => [(0, .sl 4 (l.map sEnt) t), (3, .ref o12 0), (18, .sl 1 (bs.map vStr) false), (19, vInt bs.length), (20, vInt k)]) (fun ⟨τ, k⟩ => τ) (τ2, 0) ?_ ?_ ?_ ?_
 ·exact ⟨Nat.zero_le _, by simpa using hC2, hF⟩
 ·exact cv_
 ·exact Store.Wk.refl _
 rintro ⟨τ, k⟩ ⟨hk, hC, hG⟩
 simp only [ar_, au_]
 refine ab_ ?_
 refine aa_ kr_ ?_
 (refine aL_S rfl rfl v_ ?_)
 refine ac_ ?_
 refine ab_ ?_
 refine ad_ v_ (fun hc5 => ?_) (fun hc5 => ?_)
 ·replace hc5 := nm_ hc5
  refine ah_ ?_
  refine ab_ ?_
  refine al_ ?_
  refine ab_ ?_
  obtain ⟨x, hx⟩ := aA_ (l := bs) (k := k) (by omega)
  have hxz := hbz x (List.mem_of_getElem? hx)
  have hle := fm_ (f := bktW l) (if_ l) (bs.take k)
  rw [List.length_take] at hle
  have R := hx
  refine aa_ kr_ ?_
  iterate 3 (refine aL_S rfl rfl v_ ?_)
  refine ac_ ?_
  refine aa_ kr_ ?_
  iterate 2 (refine aL_S rfl rfl v_ ?_)
  refine aL_X rfl rfl (ae_ rfl rfl (.inr ⟨rfl, rfl, rfl⟩) g_ va_ (nh_ hC (by rw [List.length_append]; omega) (by omega) hl hs hk5) ?_); rintro _ τ3 ⟨rfl, hC3, hG3⟩
  refine ac_ ?_
  refine aa_ kr_ ?_
  iterate 2 (refine aL_S rfl rfl v_ ?_)
  refine ac_ ?_
  refine aJ_ (ι := Store × Nat) (i := ⟨τ, k⟩) (τ3, k + 1) ?_ ?_ ?_ ?_
  ·show bs.length - (k + 1) < bs.length - k; omega
  ·exact ⟨by show k + 1 ≤ bs.length; omega, by rw [io_ hx, ← List.append_assoc]; exact hC3, hG.trans hG3⟩
  ·exact cv_
  ·exact Store.Wk.refl _
 ·replace hc5 := nm_ hc5
  refine ax_ ?_
  refine ag_ ?_
  refine ag_ ?_
  refine aq_ ?_
  refine ab_ ?_
  refine ab_ ?_
  obtain rfl : k = bs.length := by omega
  rw [List.take_length] at hC
  have hle := fm_ (f := bktW l) (if_ l) bs
  obtain ⟨W3, hW3⟩ : ∃ W3, W2 ++ bs.flatMap (bktW l) = W3 := ⟨_, rfl⟩
  have w3 : W3.length ≤ 10000 := by rw [← hW3, List.length_append]; omega
  rw [hW3] at hC hfin
  refine aa_ kr_ ?_
  (refine aL_S rfl rfl v_ ?_)
  refine aL_X rfl rfl (ae_ rfl rfl (.inr ⟨rfl, rfl, rfl⟩) g_ va_ (sL_ (by omega) hs hk4) ?_); rintro _ _ ⟨rfl, rfl⟩
  rw [has]
  iterate 2 (refine aL_S rfl rfl v_ ?_)
  refine ac_ ?_
  refine al_ ?_
  refine ap_ (ι := Store × Nat) (fun ⟨υ, j⟩ => ts.length - j) (fun ⟨υ, j⟩ => j ≤ ts.length ∧ WC υ o12 l t (W3 ++ (ts.take j).flatMap (limW l)) ∧ WF o12 (σ.set o12 (.cells [.sl 4 (l.map sEnt) t, vNil])) υ) (fun ⟨υ, j⟩ => [(0, .sl 4 (l.map sEnt) t), (3, .ref o12 0), (29, .sl 1 (ts.map vStr) false), (30, vInt ts.length), (31, vInt j)]) (fun ⟨υ, j⟩ => υ) (τ, 0) ?_ ?_ ?_ ?_
  ·exact ⟨Nat.zero_le _, by simpa using hC, hG⟩
  ·exact cv_
  ·exact Store.Wk.refl _
  rintro ⟨υ, j⟩ ⟨hj, hD, hH⟩
  simp only [ar_, au_]
  refine ab_ ?_
  refine aa_ kr_ ?_
  (refine aL_S rfl rfl v_ ?_)
  refine ac_ ?_
  refine ab_ ?_
  refine ad_ v_ (fun hc10 => ?_) (fun hc10 => ?_)
  ·replace hc10 := nm_ hc10
   refine ah_ ?_
   refine ab_ ?_
   refine al_ ?_
   refine ab_ ?_
   obtain ⟨y, hy⟩ := aA_ (l := ts) (k := j) (by omega)
   have hyz := haz y (List.mem_of_getElem? hy)
   have hlj := cY_ (f := limW l) (fun x => bO_ _ _ _) (ts.take j)
   rw [List.length_take] at hlj
   have R := hy
   refine aa_ kr_ ?_
   iterate 3 (refine aL_S rfl rfl v_ ?_)
   refine ac_ ?_
   refine ab_ ?_
   refine aa_ kr_ ?_
   iterate 2 (refine aL_S rfl rfl v_ ?_)
   refine aL_X rfl rfl (ae_ rfl rfl (.inr ⟨rfl, rfl, rfl⟩) g_ va_ (of_c (by omega) hs (by omega)) ?_); rintro _ _ ⟨rfl, rfl⟩
   iterate 3 (refine aL_S rfl rfl v_ ?_)
   refine aQ_ rfl rfl rfl g_ gl_ fun o8 ho8 => ?_
   repeat (rw [an_] at ho8; obtain ⟨_, ho8⟩ := ho8)
   refine av_ rfl rfl rfl v_ v_ h_ g_ rfl g_ c_ (by rfl) le_ v_ ?_
   (refine aL_S rfl rfl v_ ?_)
   refine ac_ ?_
   skip
   have hne := qy_ (σ := σ) hD ho8
   have hD1 := hD.set2 (x := .cells [.lit (.string ⟨#[]⟩), .lit (.string ⟨#[]⟩), vInt 0, vInt 0, vInt 0, vInt 0]) (y := .cells (sTen (tenS l y)).cells) ho8
   refine aG_ (.op 0 0 (.op 1 0 (.op 2 0 (.op 3 0 (.op 4 0 (.op 5 0 (.op 6 0 (.op 7 0 (.op 8 0 (.op 9 0 (.op 10 0 (.op 11 0 (.op 12 0 (.op 13 0 (.op 14 0 (.op 15 0 (.op 16 0 (.op 17 0 (.op 18 0 (.op 19 0 (.op 20 1 (.op 21 1 (.op 22 2 .nil))))))))))))))))))))))) Tryz.mixed kr_ ?_
   iterate 5 (refine dR_S o_ (by rfl) (by rfl) v_ ?_)
   refine dY_ o_ (by rfl) (by rfl) v_ (by rfl) vg_ ?_
   refine dY_ o_ (by rfl) (by rfl) v_ (by rfl) vg_ ?_
   refine dY_ o_ (by rfl) (by rfl) v_ (by rfl) vg_ ?_
   iterate 2 (refine dR_S o_ (by rfl) (by rfl) v_ ?_)
   refine dY_ o_ (by rfl) (by rfl) v_ (by rfl) vg_ ?_
   refine dY_ o_ (by rfl) (by rfl) v_ (by rfl) vg_ ?_
   refine dY_ o_ (by rfl) (by rfl) v_ (by rfl) vg_ ?_
   refine dY_ o_ (by rfl) (by rfl) v_ (by rfl) vg_ ?_
   refine bI_ o_ (by rfl) (by rfl) v_ (by rfl) vg_ ?_
   refine bI_ o_ (by rfl) (by rfl) v_ (by rfl) vg_ ?_
   refine bI_ o_ (by rfl) (by rfl) v_ (by rfl) vg_ ?_
   refine dY_ o_ (by rfl) (by rfl) v_ (by rfl) vg_ ?_
   iterate 2 (refine dR_S o_ (by rfl) (by rfl) v_ ?_)
   refine dR_X o_ (by rfl) (by rfl) (aD_ (by rfl) g_ g_ (by rfl) (by rfl) h_ c2_ (by decide) ⟨sub_, ?_⟩)
   refine dR_X o_ (by rfl) (by rfl) (ae_ (by rfl) (by rfl) (.inr ⟨by rfl, by rfl, by rfl⟩) g_ va_ (bJ_ (l := [aR_, y]) (by simp) (by simp [aB_, show (Lb aR_).length = 6 from rfl]; omega)) ?_); rintro _ _ ⟨rfl, rfl⟩; refine ⟨sub_, ?_⟩
   refine dR_T o_ (by rfl) (by rfl) (ae_ (by rfl) (by rfl) (.inr ⟨by rfl, by rfl, by rfl⟩) g_ va_ (dM_ hD1 (by rw [List.length_append]; omega)) ?_); rintro _ υ2 ⟨rfl, hD2, hH2⟩
   refine aL_ ?_
   refine aa_ kr_ ?_
   iterate 2 (refine aL_S rfl rfl v_ ?_)
   refine ac_ ?_
   refine aJ_ (ι := Store × Nat) (i := ⟨υ, j⟩) (υ2, j + 1) ?_ ?_ ?_ ?_
   ·show ts.length - (j + 1) < ts.length - j; omega
   ·exact ⟨by show j + 1 ≤ ts.length; omega, by rw [io_ hy, ← List.append_assoc]; exact hD2, (hH.alloc2 ho8 hne).trans hH2⟩
   ·exact cv_
   ·exact Store.Wk.refl _
  ·replace hc10 := nm_ hc10
   refine ax_ ?_
   refine ag_ ?_
   refine ag_ ?_
   refine aq_ ?_
   refine ab_ ?_
   obtain rfl : j = ts.length := by omega
   rw [List.take_length, ← hfin] at hD
   obtain ⟨b1, old1, h11, h12⟩ := id hD
   have R := h11
   refine aa_ kr_ ?_
   iterate 5 (refine aL_S rfl rfl v_ ?_)
   refine ac_ ?_
   refine am_ ?_
   exact a6_ (v := .sl 2 ((cM_ l).map sWn) false) (v' := b1) va_ (bq_.wk h12) (WF.sub ho12 hH (fun a t' sz m hh => by cases hh)).wk ⟨rfl, rfl⟩
theorem oa_ {a : List Wn} {t1 t2 : Bool} {σ : Store} (hl : a.length ≤ 1000000) : ao_ Tryz.prog 69 [.sl 2 (a.map sWn) t1, .sl 2 (a.map sWn) t2] σ fun v σ' => v = vB true ∧ σ = σ' := by
 refine aj_ Tryz.func69 rfl Tryz.ntmps69 (congrArg Array.toList Tryz.results69) (by simp only [List.length_cons, List.length_nil]; decide) ?_; simp only [af_, ak_, Nat.reduceAdd]
 refine ab_ ?_
 refine aa_ kr_ ?_
 (refine aL_S rfl rfl v_ ?_)
 refine ac_ ?_
 refine ab_ ?_
 refine ab_ ?_
 refine aa_ kr_ ?_
 iterate 5 (refine aL_S rfl rfl v_ ?_)
 refine ac_ ?_
 refine ad_ v_ (fun hc1 => ?_) (fun hc1 => ?_)
 ·replace hc1 := nm_ hc1
  simp at hc1
 ·replace hc1 := nm_ hc1
  refine ah_ ?_
  refine ab_ ?_
  refine ab_ ?_
  refine aa_ kr_ ?_
  (refine aL_S rfl rfl v_ ?_)
  refine ac_ ?_
  refine al_ ?_
  refine ap_ (ι := Nat) (fun k => a.length - k) (fun k => k ≤ a.length) (fun k => [(0, .sl 2 (a.map sWn) t1), (1, .sl 2 (a.map sWn) t2), (5, vInt k)]) (fun k => σ) 0 ?_ ?_ ?_ ?_
  ·exact Nat.zero_le _
  ·exact cv_
  ·exact sub_
  rintro k hk
  simp only [ar_, au_]
  refine ab_ ?_
  refine ab_ ?_
  refine aa_ kr_ ?_
  iterate 5 (refine aL_S rfl rfl v_ ?_)
  refine aC_ rfl rfl v_ rfl vg_ ?_
  refine aC_ rfl rfl v_ rfl vg_ ?_
  refine aC_ rfl rfl v_ rfl vg_ ?_
  refine aC_ rfl rfl v_ rfl vg_ ?_
  (refine aL_S rfl rfl v_ ?_)
  refine ac_ ?_
  refine ad_ v_ (fun hc4 => ?_) (fun hc4 => ?_)
  ·replace hc4 := nm_ hc4
   refine ah_ ?_
   refine ab_ ?_
   refine al_ ?_
   refine ab_ ?_
   obtain ⟨x, hx⟩ := aA_ (l := a) (k := k) (by omega)
   have R := hx
   refine aG_ (.op 0 0 (.op 1 0 (.op 2 0 (.op 3 0 (.op 4 0 (.op 5 0 (.op 6 0 (.op 7 0 (.op 8 0 .nil))))))))) Tryz.mixed kr_ ?_
   iterate 9 (refine dR_S o_ (by rfl) (by rfl) v_ ?_)
   refine aL_ ?_
   refine ad_ v_ (fun hc6 => ?_) (fun hc6 => ?_)
   ·replace hc6 := nm_ hc6
    simp at hc6
   ·replace hc6 := nm_ hc6
    refine ah_ ?_
    refine aa_ kr_ ?_
    iterate 3 (refine aL_S rfl rfl v_ ?_)
    refine ac_ ?_
    refine aJ_ (ι := Nat) (i := k) (k + 1) ?_ ?_ ?_ ?_
    ·omega
    ·exact (by omega)
    ·exact cv_
    ·exact sub_
  ·replace hc4 := nm_ hc4
   refine ax_ ?_
   refine ag_ ?_
   refine ag_ ?_
   refine aq_ ?_
   refine ab_ ?_
   refine aa_ kr_ ?_
   (refine aL_S rfl rfl v_ ?_)
   refine ac_ ?_
   refine am_ ?_
   refine ai_ (σ' := σ) v_ sub_ ?_
   exact ⟨rfl, rfl⟩
end Go.Proofs.YtkcmbjodladflaaGreatDoor
end

section
set_option linter.all false
set_option maxRecDepth 100000
namespace Go.Proofs.YtkcmbjodladflaaGreatDoor
open Go.Ab
def rK_ (l : List Ent) (k : Nat) : List Wn := wIf (decide (¬ (p1_ l k).size = 0) && !hasT (nmsS l) (p1_ l k)) 1 (g3_ k)
theorem rL_ {l : List Ent} {k : Nat} (h : k < 20) : ownW l k = rK_ l k := by rw [ownW, rJ_ h, dH_ h]; rfl
abbrev wP : Ent := ⟨⟨#[112, 114, 111, 112, 47, 116, 47, 98, 47, 110]⟩, 1, ⟨#[]⟩, ⟨#[50]⟩⟩
abbrev wR : Ent := ⟨⟨#[114, 105, 110, 103, 47, 51]⟩, 1, ⟨#[]⟩, ⟨#[97]⟩⟩
abbrev wX : Ent := ⟨⟨#[120]⟩, 1, ⟨#[]⟩, ⟨#[]⟩⟩
abbrev wL : List Ent := [wP, wR, wX]
abbrev kTB : ByteArray := ⟨#[112, 114, 111, 112, 47, 116, 47, 98]⟩
abbrev tB : ByteArray := ⟨#[98]⟩
abbrev tTB : ByteArray := ⟨#[116, 47, 98]⟩
theorem oX_ : bT_ wL = [] := by kernel_rfl
theorem rv_ : Lib.itoa 2 = [50] := by rw [show (2 : Int) = ((2 : Nat) : Int) from rfl, Lib.itoa_nonneg, cB_ (by decide)]; rfl
theorem sW_ : numS ⟨#[50]⟩ = some 2 := fJ_.2 ⟨by rw [rv_]; rfl, by decide, by decide⟩
theorem kn_P : bi_ wP.key = true := by kernel_rfl
theorem kn_R : bi_ wR.key = true := by
 unfold bi_ dG_
 rw [show aH_ wR.key = [bH_, ⟨#[51]⟩] from by kernel_rfl]
 unfold knP in16 kj_
 rw [show ([bH_, ⟨#[51]⟩] : List ByteArray)[([bH_, ⟨#[51]⟩] : List ByteArray).length - 1]?.getD ⟨#[]⟩ = ⟨#[51]⟩ from rfl, sX_]
 kernel_rfl
theorem kn_X : bi_ wX.key = false := by kernel_rfl
theorem sa_ : wL.flatMap keyW = [⟨8, ⟨#[120]⟩⟩] := by
 have h1 : keyW wP = [] := by unfold keyW; rw [kn_P]; rfl
 have h2 : keyW wR = [] := by unfold keyW; rw [kn_R]; rfl
 have h3 : keyW wX = [⟨8, ⟨#[120]⟩⟩] := by unfold keyW; rw [kn_X]; rfl
 rw [List.flatMap_cons, List.flatMap_cons, List.flatMap_cons, h1, h2, h3]; rfl
theorem tb_ : (List.range 16).flatMap (ownW wL) = [⟨1, ⟨#[114, 105, 110, 103, 47, 51]⟩⟩] := by
 have h : (List.range 16).flatMap (ownW wL) = (List.range 16).flatMap (rK_ wL) := by
  rw [List.flatMap_def, List.flatMap_def]
  congr 1
  exact List.map_congr_left fun k hk => rL_ (by have := List.mem_range.1 hk; omega)
 exact h.trans kr_
theorem ta_ : evnW wL = [] := by
 unfold evnW
 rw [show nmsS wL = [] from by rw [nmsS, oX_]; rfl]
 rfl
theorem w_bk : bW_ wL = [tTB] := by
 unfold bW_
 rw [← jc_]
 kernel_rfl
theorem s9_ : cutS tTB = (tT, tB, true) := by kernel_rfl
theorem tc_ : prpS wL tT tB = ⟨2, 2, 2, 0, 0, true, true, false⟩ := by
 have g1 : (getS wL (prpK tT tB fdN)).value = ⟨#[50]⟩ := by kernel_rfl
 have g2 : (getS wL (prpK tT tB fdR)).value = ⟨#[]⟩ := by kernel_rfl
 have g3 : (getS wL (prpK tT tB fdW)).value = ⟨#[]⟩ := by kernel_rfl
 have g4 : (getS wL (prpK tT tB fdPr)).value = ⟨#[]⟩ := by kernel_rfl
 have g5 : (getS wL (prpK tT tB fdPw)).value = ⟨#[]⟩ := by kernel_rfl
 have g6 : (getS wL (prpK tT tB hE_)).value = ⟨#[]⟩ := by kernel_rfl
 have g7 : (getS wL (prpK tT tB hD_)).value = ⟨#[]⟩ := by kernel_rfl
 have g8 : (getS wL (prpK tT tB kb_)).value = ⟨#[]⟩ := by kernel_rfl
 unfold prpS minF fldS
 rw [g1, g2, g3, g4, g5, g6, g7, g8, sW_, sY_]
 rfl
theorem s7_ : alwS wL tTB = false := by kernel_rfl
theorem s8_ : bktW wL tTB = [⟨3, kTB⟩, ⟨6, kTB⟩] := by
 unfold bktW bktQ rckS fewS
 rw [s9_, tc_, s7_, oX_]
 kernel_rfl
theorem s6_ : allS wL = [] := by
 rw [← qR_]
 kernel_rfl
theorem qx_ : cM_ wL = [⟨8, ⟨#[120]⟩⟩, ⟨1, ⟨#[114, 105, 110, 103, 47, 51]⟩⟩, ⟨3, kTB⟩, ⟨6, kTB⟩] := by
 unfold cM_
 rw [sa_, tb_, ta_, w_bk, s6_, List.flatMap_cons, List.flatMap_nil, List.flatMap_nil, s8_]
 rfl
theorem oq_ : ∀ x ∈ wL, EntSm x ∧ (x.key.size ≤ 1000 ∧ x.value.size ≤ 400000) := fun x hx => by
 rcases List.mem_cons.1 hx with rfl | hx
 ·exact ⟨⟨by decide, by decide, by decide⟩, by decide, by decide⟩
 ·rcases List.mem_cons.1 hx with rfl | hx
  ·exact ⟨⟨by decide, by decide, by decide⟩, by decide, by decide⟩
  ·rw [List.mem_singleton.1 hx]; exact ⟨⟨by decide, by decide, by decide⟩, by decide, by decide⟩
theorem kn_4 : bi_ ⟨#[97, 99, 108, 47, 116, 47, 98, 47, 117]⟩ = true := by kernel_rfl
theorem kn_3 : bi_ ⟨#[97, 99, 108, 47, 116, 47, 98]⟩ = false := by kernel_rfl
theorem fu_ {σ : Store} : ao_ Tryz.prog 26 [] σ fun v σ' => v = vB true ∧ σ = σ' := by
 refine aj_ Tryz.func26 rfl Tryz.ntmps26 (congrArg Array.toList Tryz.results26) (by simp only [List.length_cons, List.length_nil]; decide) ?_; simp only [af_, ak_, Nat.reduceAdd]
 refine ab_ ?_
 refine aa_ kr_ ?_
 (refine aL_S rfl rfl v_ ?_)
 refine ac_ ?_
 refine ab_ ?_
 refine aa_ kr_ ?_
 iterate 6 (refine aL_S rfl rfl v_ ?_)
 refine aw_ rfl rfl rfl g_ g_ rfl rfl h_ c2_ (by decide) ?_
 (refine aL_S rfl rfl v_ ?_)
 refine ac_ ?_
 refine ab_ ?_
 refine aa_ kr_ ?_
 (refine aL_S rfl rfl v_ ?_)
 refine aL_X rfl rfl (ae_ rfl rfl (.inr ⟨rfl, rfl, rfl⟩) g_ va_ (oK_ (l := wL) (t := true) (by decide) (fun x hx => (oq_ x hx).1) (fun x hx => (oq_ x hx).2)) ?_); rintro _ _ ⟨rfl, rfl⟩
 rw [qx_]
 iterate 4 (refine aL_S rfl rfl v_ ?_)
 refine aw_ rfl rfl rfl g_ g_ rfl rfl h_ c2_ (by decide) ?_
 refine aL_X rfl rfl (ae_ rfl rfl (.inr ⟨rfl, rfl, rfl⟩) g_ va_ (oa_ (a := [⟨8, ⟨#[120]⟩⟩, ⟨1, ⟨#[114, 105, 110, 103, 47, 51]⟩⟩, ⟨3, kTB⟩, ⟨6, kTB⟩]) (by decide)) ?_); rintro _ _ ⟨rfl, rfl⟩
 (refine aL_S rfl rfl v_ ?_)
 refine ch_ (as_ rfl rfl v_ (by rfl)) rfl (ae_ rfl rfl (.inr ⟨rfl, rfl, rfl⟩) g_ va_ (eX_ (by decide)) ?_); rintro _ _ ⟨rfl, rfl⟩
 rw [kn_4]
 iterate 2 (refine aL_S rfl rfl v_ ?_)
 refine ch_ (as_ rfl rfl v_ (by rfl)) rfl (ae_ rfl rfl (.inr ⟨rfl, rfl, rfl⟩) g_ va_ (eX_ (by decide)) ?_); rintro _ _ ⟨rfl, rfl⟩
 rw [kn_3]
 refine cZ_ (as_ rfl rfl v_ (by rfl)) rfl v_ ?_
 iterate 2 (refine aL_S rfl rfl v_ ?_)
 refine cZ_ (as_ rfl rfl v_ (by rfl)) rfl v_ ?_
 refine ch_ (as_ rfl rfl v_ (by rfl)) rfl (ae_ rfl rfl (.inr ⟨rfl, rfl, rfl⟩) g_ va_ (hq_ (l := wL) (t := true) (by decide) (fun x hx => (oq_ x hx).1) (fun x hx => Nat.le_trans (oq_ x hx).2.1 (by decide))) ?_); rintro _ _ ⟨rfl, rfl⟩
 rw [w_bk]
 refine ch_ (as_ rfl rfl v_ (by rfl)) rfl (aD_ rfl g_ g_ rfl rfl h_ c2_ (by decide) ?_)
 refine ch_ (as_ rfl rfl v_ (by rfl)) rfl (ae_ rfl rfl (.inr ⟨rfl, rfl, rfl⟩) g_ va_ (iD_ (a := [tTB]) (by decide)) ?_); rintro _ _ ⟨rfl, rfl⟩
 iterate 2 (refine aL_S rfl rfl v_ ?_)
 refine ac_ ?_
 refine am_ ?_
 refine ai_ (σ' := σ) v_ sub_ ?_
 exact ⟨rfl, rfl⟩
end Go.Proofs.YtkcmbjodladflaaGreatDoor
end

section
set_option linter.all false
set_option maxRecDepth 100000
namespace Go.Proofs.YtkcmbjodladflaaGreatDoor
open Go.Ab
theorem fH_ {a : ByteArray} {l : List ByteArray} (ha : a.size ≠ 0) (hl : l ≠ []) (h : ∀ x ∈ a :: l, ∀ c ∈ Lb x, c ≠ 47) : aH_ (cJ_ (a :: l)) = a :: l := by
 refine fL_ (by simp) (fun hh => ?_) h
 cases l with
 |nil => exact hl rfl
 |cons y r =>
  rw [fN_] at hh
  simp at hh
theorem ej_ : ∀ s ∈ [a0_, bH_, aO_, er_, aR_, bP_, cS_, es_, dB_, ef_] ++ g0_, ∀ c ∈ Lb s, c ≠ 47 := by decide
theorem lD_ {a : ByteArray} (h : aI_ a = true) : bi_ (keyN a) = true := by
 have hp : aH_ (keyN a) = [a0_, a] := fH_ (by decide) (by simp) fun x hx => by
  rcases List.mem_cons.1 hx with rfl | hx
  ·exact ej_ _ (by simp)
  ·rw [List.mem_singleton.1 hx]; exact cm_ h
 unfold bi_ dG_
 rw [hp]
 simp [knP, h]
theorem pN_ {k : Nat} (hk : k < 16) : bi_ (br_ k) = true := by
 have hz := it_ (k := k) (by omega)
 have hn : numS (B (Lib.itoa (k : Int))) = some (k : Int) := fJ_.2 ⟨rfl, by omega, by omega⟩
 have hp : aH_ (br_ k) = [bH_, B (Lib.itoa (k : Int))] := fH_ (by decide) (by simp) fun x hx => by
  rcases List.mem_cons.1 hx with rfl | hx
  ·exact ej_ _ (by simp)
  ·rw [List.mem_singleton.1 hx, Lb_B]
   have : ∀ j < 16, ∀ c ∈ Lib.itoa ((j : Nat) : Int), c ≠ 47 := by
    intro j hj
    rw [lx_ (by omega)]
    revert j; decide
   exact this k hk
 unfold bi_ dG_
 rw [hp]
 simp [knP, kj_, in16, hn, show bH_ ≠ a0_ from by decide]
 omega
theorem hN_ {a f : ByteArray} (h : aI_ a = true) (hf : f ∈ tenF) : bi_ (keyS a f) = true := by
 have hp : aH_ (keyS a f) = [aR_, a, f] := fH_ (by decide) (by simp) fun x hx => by
  rcases List.mem_cons.1 hx with rfl | hx
  ·exact ej_ _ (by simp)
  ·rcases List.mem_cons.1 hx with rfl | hx
   ·exact cm_ h
   ·rw [List.mem_singleton.1 hx]
    refine ej_ f ?_
    unfold tenF at hf
    simp only [List.mem_cons, List.not_mem_nil, or_false] at hf
    rcases hf with rfl | rfl | rfl | rfl | rfl <;> simp
 have hh : hasT tenF f = true := by rw [hasT, List.any_eq_true]; exact ⟨f, hf, decide_eq_true rfl⟩
 unfold bi_ dG_
 rw [hp]
 simp [knP, kj_, h, hh, show aR_ ≠ a0_ from by decide, show aR_ ≠ bH_ from by decide, show aR_ ≠ aO_ from by decide, show aR_ ≠ er_ from by decide]
theorem pM_ {a b f : ByteArray} (h : aI_ a = true) (h2 : aI_ b = true) (hf : f ∈ g0_) : bi_ (prpK a b f) = true := by
 have hp : aH_ (prpK a b f) = [aO_, a, b, f] := fH_ (by decide) (by simp) fun x hx => by
  rcases List.mem_cons.1 hx with rfl | hx
  ·exact ej_ _ (by simp)
  ·rcases List.mem_cons.1 hx with rfl | hx
   ·exact cm_ h
   ·rcases List.mem_cons.1 hx with rfl | hx
    ·exact cm_ h2
    ·rw [List.mem_singleton.1 hx]; exact ej_ f (List.mem_append_right _ hf)
 have hh : hasT g0_ f = true := by rw [hasT, List.any_eq_true]; exact ⟨f, hf, decide_eq_true rfl⟩
 unfold bi_ dG_
 rw [hp]
 simp [knP, kj_, h, h2, hh, show aO_ ≠ a0_ from by decide, show aO_ ≠ bH_ from by decide]
theorem rD_ {a b f : ByteArray} (h : aI_ a = true) (h2 : aI_ b = true) (h3 : aI_ f = true) : bi_ (accK a b f) = true := by
 have hp : aH_ (accK a b f) = [er_, a, b, f] := fH_ (by decide) (by simp) fun x hx => by
  rcases List.mem_cons.1 hx with rfl | hx
  ·exact ej_ _ (by simp)
  ·rcases List.mem_cons.1 hx with rfl | hx
   ·exact cm_ h
   ·rcases List.mem_cons.1 hx with rfl | hx
    ·exact cm_ h2
    ·rw [List.mem_singleton.1 hx]; exact cm_ h3
 unfold bi_ dG_
 rw [hp]
 simp [knP, h, h2, h3, show er_ ≠ a0_ from by decide, show er_ ≠ bH_ from by decide, show er_ ≠ aO_ from by decide]
theorem pR_ {f : ByteArray} {n : Int} (h : mayP f n = true) : f ∈ g0_ := by
 unfold mayP bdP at h
 split at h
 ·rename_i h1; rcases h1 with rfl | rfl | rfl <;> simp [g0_]
 ·split at h
  ·rename_i h1; rcases h1 with rfl | rfl <;> simp [g0_]
  ·split at h
   ·rename_i h1; rcases h1 with rfl | rfl | rfl <;> simp [g0_]
   ·simp at h
theorem q4_ {f : ByteArray} (h : (bndS f).2.2 = true) : f ∈ tenF := by
 unfold bndS at h
 split at h
 ·rename_i h1; rw [h1]; simp [tenF]
 ·split at h
  ·rename_i h1; rw [h1]; simp [tenF]
  ·split at h
   ·rename_i h1; rw [h1]; simp [tenF]
   ·split at h
    ·rename_i h1; rw [h1]; simp [tenF]
    ·cases h
theorem gv_ {r : Ent × Int} (h : r.2 = 0 → bi_ r.1.key = true) (h0 : (ca_ ([], 0) r).2 = 0) : ∀ x ∈ (ca_ ([], 0) r).1, bi_ x.key = true := fun x hx => by
 rw [bt_] at hx h0
 rw [List.mem_singleton.1 hx]; exact h h0
theorem qL_ {l : List Ent} {who : ByteArray} {a : Adm} (hl : bc_ l = true) (h : (cj_ l who a).2 = 0) : ∀ x ∈ (cj_ l who a).1, bi_ x.key = true := by
 unfold cj_ at h ⊢
 split at h
 ·rename_i h1; rw [if_pos h1]
  refine gv_ (fun hh => ?_) h
  unfold secS at hh ⊢
  split at hh
  ·cases hh
  ·rename_i h2; rw [if_neg h2, (bV_ hh).key]
   simp only [Bool.or_eq_true, Bool.not_eq_true', not_or, Bool.not_eq_false] at h2
   exact hN_ h2.1 (by simp [tenF])
 ·split at h
  ·rename_i h1 h2; rw [if_neg h1, if_pos h2]
   refine gv_ (fun hh => ?_) h
   unfold dt_ at hh ⊢
   split at hh
   ·cases hh
   ·rename_i h2; rw [if_neg h2, (bV_ hh).key]
    simp only [Bool.or_eq_true, Bool.not_eq_true', not_or, Bool.not_eq_false] at h2
    exact hN_ h2.1.1.1 (q4_ h2.1.1.2)
  ·split at h
   ·rename_i h1 h2 h3; rw [if_neg h1, if_neg h2, if_pos h3]
    refine gv_ (fun hh => ?_) h
    unfold du_ at hh ⊢
    split at hh
    ·rename_i h4; rw [if_pos h4, (bV_ hh).key]; exact pM_ h4.1 h4.2.1 (pR_ h4.2.2)
    ·cases hh
   ·split at h
    ·rename_i h1 h2 h3 h4; rw [if_neg h1, if_neg h2, if_neg h3, if_pos h4]
     refine gv_ (fun hh => ?_) h
     unfold dp_ at hh ⊢
     split at hh
     ·rename_i h5; rw [if_pos h5, (bV_ hh).key]; exact rD_ h5.1 h5.2.1 h5.2.2.1
     ·cases hh
    ·split at h
     ·rename_i h1 h2 h3 h4 h5; rw [if_neg h1, if_neg h2, if_neg h3, if_neg h4, if_pos h5]
      unfold cL_ at h ⊢
      split at h
      ·rename_i h6; rw [if_pos h6]
       exact gv_ (fun hh => by rw [(bV_ hh).key]; exact lD_ h6.1) h
      ·cases h
     ·split at h
      ·rename_i h1 h2 h3 h4 h5 h6; rw [if_neg h1, if_neg h2, if_neg h3, if_neg h4, if_neg h5, if_pos h6]
       unfold e3_ at h ⊢
       split at h
       ·rename_i h7; rw [if_pos h7]
        refine gv_ (fun hh => ?_) h
        rw [(bV_ hh).key]
        rw [hasT, List.any_eq_true] at h7
        obtain ⟨s, hs, e⟩ := h7
        rw [← of_decide_eq_true e]
        exact lD_ (lQ_ hs)
       ·cases h
      ·split at h
       ·rename_i h1 h2 h3 h4 h5 h6 h7; rw [if_neg h1, if_neg h2, if_neg h3, if_neg h4, if_neg h5, if_neg h6, if_pos h7]
        unfold cR_ at h ⊢
        split at h
        ·cases h
        ·rename_i h8; rw [if_neg h8]
         unfold clMv at h ⊢
         obtain ⟨_, g2, g3⟩ := fw_ (bh_ l) ([], 0) h
         rw [g2, List.nil_append]
         intro x hx
         obtain ⟨y, hy, rfl⟩ := List.mem_map.1 hx
         rw [(bV_ (g3 y hy)).key]
         exact pN_ (eR_ hy)
       ·cases h
theorem sD_ {l : List Ent} {who : ByteArray} {a : Adm} (hl : bc_ l = true) : ((adS l who a).1 = [] ∨ (adS l who a).2 = 0) ∧ ∀ x ∈ (adS l who a).1, bi_ x.key = true := by
 unfold adS
 split
 ·split
  ·rename_i h; exact ⟨.inr rfl, qL_ hl h⟩
  ·exact ⟨.inl rfl, fun x hx => by cases hx⟩
 ·exact ⟨.inl rfl, fun x hx => by cases hx⟩
theorem mE_ {y : Ent} {s : ByteArray} (hy : hpS y.key (s ++ ⟨#[47]⟩) = false) : ∀ l : List Ent, undS (putS y l) s = undS l s
 |[] => by simp [putS, undS, hy]
 |x :: l => by
  have ih := mE_ hy l
  unfold undS at ih ⊢
  unfold putS
  split
  ·rw [List.filter_cons, List.filter_cons, ih]
  ·split
   ·rename_i he
    rw [List.filter_cons, List.filter_cons]
    have hx : hpS x.key (s ++ ⟨#[47]⟩) = false := by rw [he]; exact hy
    split
    ·rw [hx, hy]; rfl
    ·rfl
   ·rw [List.filter_cons]; simp only [hy, Bool.false_eq_true, if_false]
theorem oU_ {s : ByteArray} : ∀ (b a : List Ent), (∀ y ∈ b, hpS y.key (s ++ ⟨#[47]⟩) = false) → undS (jnS a b) s = undS a s
 |[], a, _ => rfl
 |y :: b, a, h => by
  have : jnS a (y :: b) = jnS (putS y a) b := rfl
  rw [this, oU_ b _ fun z hz => h z (.tail _ hz), mE_ (h y (.head _))]
theorem qf_ : ∀ k < 16, hpS (g3_ k) (a0_ ++ ⟨#[47]⟩) = false := by decide
structure Quiet (l : List Ent) (who : ByteArray) (xs : List Ent) : Prop where
 own : (List.range 16).flatMap (ownW (jnS l xs)) = []
 evn : evnW (jnS l xs) = []
theorem quiet {l : List Ent} {who : ByteArray} (hok : bc_ l = true) (hm : ¬ (bT_ l).length = 0) (h : (clMv l who (bh_ l)).2 = 0) : Quiet l who (clMv l who (bh_ l)).1 := by
 have hC := k5_ hm h
 have hL := nI_ hok hm hC
 have hkeys : ∀ y ∈ (clMv l who (bh_ l)).1, ∃ k, k < 16 ∧ y.key = br_ k := fun y hy => by
  unfold clMv at h hy
  obtain ⟨_, g2, g3⟩ := fw_ (bh_ l) ([], 0) h
  rw [g2, List.nil_append] at hy
  obtain ⟨z, hz, rfl⟩ := List.mem_map.1 hy
  exact ⟨z.part, eR_ hz, (bV_ (g3 z hz)).key⟩
 have hms : bT_ (jnS l (clMv l who (bh_ l)).1) = bT_ l := by
  unfold bT_
  rw [oU_ _ _ fun y hy => by
   obtain ⟨k, hk, e⟩ := hkeys y hy
   rw [e, dH_ (by omega)]; exact qf_ k hk]
 have hnm : nmsS (jnS l (clMv l who (bh_ l)).1) = nmsS l := by unfold nmsS; rw [hms]
 have h0 : 0 < (nmsS l).length := by rw [nmsS, List.length_map]; omega
 refine ⟨?_, ?_⟩
 ·rw [List.flatMap_eq_nil_iff]
  intro k hk
  have hk16 := List.mem_range.1 hk
  have ho := iz_ (l := jnS l (clMv l who (bh_ l)).1) hk16
  rw [hC.owners] at ho
  have hin := lb_ h0 _ (List.mem_of_getElem? ho)
  rw [lY_ (hQ_ hok)] at hin
  have hh : hasT (nmsS l) (ownK (jnS l (clMv l who (bh_ l)).1) k) = true := by rw [hasT, List.any_eq_true]; exact ⟨_, hin, decide_eq_true rfl⟩
  rw [ownW, hnm, hh]
  simp [wIf]
 ·rw [evnW, hnm]
  have hu : hc_ (aW_ (aF_ (jnS l (clMv l who (bh_ l)).1) 16) (nmsS l)) = false := by
   obtain ⟨L, hLe⟩ : ∃ L, aW_ (aF_ (jnS l (clMv l who (bh_ l)).1) 16) (nmsS l) = L := ⟨_, rfl⟩
   have l1 := hL.near; have l2 := hL.mem; have l3 := hL.len
   rw [hLe] at l1 l2 l3 ⊢
   have hne : L ≠ [] := fun e => by rw [e] at l3; simp at l3; omega
   have m1 := jh_ (l := L ++ [0]) (by simp)
   have m2 := jn_ (l := L ++ [16]) (by simp)
   have key : maxL (L ++ [0]) - minL (L ++ [16]) ≤ 1 := by
    have rng : ∀ x ∈ L, 0 ≤ x ∧ x ≤ 16 := l2
    rcases List.mem_append.1 m1 with m1 | m1
    ·rcases List.mem_append.1 m2 with m2 | m2
     ·obtain ⟨i, hi⟩ := List.mem_iff_getElem?.1 m1
      obtain ⟨j, hj⟩ := List.mem_iff_getElem?.1 m2
      exact l1 i j _ _ hi hj
     ·have := rng _ m1; rw [List.mem_singleton.1 m2]; omega
    ·rw [List.mem_singleton.1 m1]
     rcases List.mem_append.1 m2 with m2 | m2
     ·have := rng _ m2; omega
     ·rw [List.mem_singleton.1 m2]; omega
   unfold hc_
   rw [show decide (1 < maxL (L ++ [0]) - minL (L ++ [16])) = false from decide_eq_false (by omega), Bool.and_false]
  rw [hu]; rfl
theorem dW_ {b : Bool} {k : Int} {s : ByteArray} {w : Wn} (h : w ∈ wIf b k s) : w.kind = k := by
 unfold wIf at h
 split at h
 ·rw [List.mem_singleton.1 h]
 ·cases h
theorem nk_ {m : List Ent} (h1 : (List.range 16).flatMap (ownW m) = []) (h2 : evnW m = []) {w : Wn} (h : w ∈ cM_ m) : w.kind ≠ 1 ∧ w.kind ≠ 2 := by
 unfold cM_ at h
 rw [h1, h2, List.append_nil, List.append_nil] at h
 rcases List.mem_append.1 h with h | h
 ·rcases List.mem_append.1 h with h | h
  ·obtain ⟨x, _, hx⟩ := List.mem_flatMap.1 h
   have := dW_ hx
   omega
  ·obtain ⟨x, _, hx⟩ := List.mem_flatMap.1 h
   unfold bktW bktQ at hx
   rcases List.mem_append.1 hx with hx | hx
   ·have := dW_ hx; omega
   ·rcases List.mem_append.1 hx with hx | hx
    ·have := dW_ hx; omega
    ·rcases List.mem_append.1 hx with hx | hx
     ·have := dW_ hx; omega
     ·have := dW_ hx; omega
 ·obtain ⟨x, _, hx⟩ := List.mem_flatMap.1 h
  have := dW_ hx
  omega
theorem pl_ (m : List Ent) (h : m.length ≤ 1000) : (cM_ m).length ≤ 100000 := by
 have l1 := cY_ (f := keyW) (fun x => bO_ _ _ _) m
 have l2 := cY_ (f := ownW m) (fun x => bO_ _ _ _) (List.range 16)
 have l3 := lf_ m
 have l4 := fm_ (f := bktW m) (if_ m) (bW_ m)
 have l5 := cY_ (f := limW m) (fun x => bO_ _ _ _) (allS m)
 have l6 := fv_ m
 have l7 := kQ_ m
 rw [List.length_range] at l2
 unfold cM_
 simp only [List.length_append]; omega
end Go.Proofs.YtkcmbjodladflaaGreatDoor
end

section
set_option linter.all false
set_option maxRecDepth 100000
namespace Go.Proofs.YtkcmbjodladflaaGreatDoor
open Go.Ab
theorem qJ_ {l : List Ent} {who : ByteArray} {a : Adm} (hl : bc_ l = true) : ((adS l who a).1 = [] ∨ (adS l who a).2 = 0) ∧ (∀ x ∈ (adS l who a).1, bi_ x.key = true) ∧ (∀ x ∈ (adS l who a).1, x.key.size ≤ 128) ∧ (adS l who a).1.length ≤ 16 := by
 have h := sD_ (who := who) (a := a) hl
 refine ⟨h.1, h.2, fun x hx => ?_, by
  rcases h.1 with h1 | h1
  ·rw [h1]; simp
  ·exact (kM_ h1).few⟩
 rcases h.1 with h1 | h1
 ·rw [h1] at hx; cases hx
 ·have := ((kM_ h1).puts.ok x hx).1
  unfold bS_ at this
  simp only [Bool.and_eq_true, decide_eq_true_eq] at this
  exact this.1.2
theorem pS_ : aI_ n1 = true := by decide
set_option maxHeartbeats 4000000 in
theorem iw_ {l : List Ent} {t : Bool} {a : Adm} {σ : Store} (n0 : -9223372036854775808 ≤ a.n) (n1' : a.n ≤ 9223372036854775807) : ao_ Tryz.prog 7 [.sl 4 (l.map sEnt) t, sAdm a] σ fun v σ' => v = vB true ∧ σ = σ' := by
 refine aj_ Tryz.func7 rfl Tryz.ntmps7 (congrArg Array.toList Tryz.results7) (by simp only [List.length_cons, List.length_nil]; decide) ?_; simp only [af_, ak_, Nat.reduceAdd]
 refine ab_ ?_
 refine aa_ kr_ ?_
 refine bb_ rfl rfl rfl v_ rfl g_ fun o3 ho3 => ?_
 repeat (rw [an_] at ho3; obtain ⟨_, ho3⟩ := ho3)
 (refine aL_S rfl rfl v_ ?_)
 refine ac_ ?_
 refine ab_ ?_
 refine ab_ ?_
 refine aa_ kr_ ?_
 (refine aL_S rfl rfl v_ ?_)
 refine aL_X rfl rfl (ae_ rfl rfl (.inr ⟨rfl, rfl, rfl⟩) g_ va_ (pt_ (n := 60) (by decide)) ?_); rintro _ _ ⟨rfl, rfl⟩
 iterate 2 (refine aL_S rfl rfl v_ ?_)
 refine ay_ rfl rfl v_ rfl vg_ ?_
 refine bQ_ rfl rfl v_ rfl (fun hb => aK_ (by rfl) (by rfl) (.inr ⟨by rfl, by rfl, by rfl⟩) g_ cg_ (jC_ (gO_ (show hF_ l 60 = true from by simp_all)).2.1 (by have := (gO_ (show hF_ l 60 = true from by simp_all)).1; omega))) ?_
 refine ay_ rfl rfl v_ rfl vg_ ?_
 iterate 2 (refine aL_S rfl rfl v_ ?_)
 refine ay_ rfl rfl v_ rfl vg_ ?_
 refine bQ_ rfl rfl v_ rfl (fun hb => aK_ (by rfl) (by rfl) (.inr ⟨by rfl, by rfl, by rfl⟩) g_ cg_ (ps_)) ?_
 refine ay_ rfl rfl v_ rfl vg_ ?_
 (refine aL_S rfl rfl v_ ?_)
 refine ac_ ?_
 refine ad_ v_ (fun hc1 => ?_) (fun hc1 => ?_)
 ·replace hc1 := nm_ hc1
  refine ab_ ?_
  refine aa_ kr_ ?_
  refine aL_X rfl rfl (ae_ rfl rfl (.inr ⟨rfl, rfl, rfl⟩) g_ va_ (fu_) ?_); rintro _ _ ⟨rfl, rfl⟩
  (refine aL_S rfl rfl v_ ?_)
  refine ac_ ?_
  refine am_ ?_
  refine ai_ (σ' := σ) v_ sub_ ?_
  exact ⟨rfl, rfl⟩
 ·replace hc1 := nm_ hc1
  have hfe : hF_ l 60 = true := by simp_all
  have hok : bc_ l = true := by simp_all
  have hfa : lg_ a = true := by simp_all
  obtain ⟨nl, hs, hk⟩ := gO_ hfe
  have hml := dm_ l
  have hkn := qJ_ (who := n1) (a := a) hok
  refine ah_ ?_
  refine ab_ ?_
  refine aa_ kr_ ?_
  iterate 2 (refine aL_S rfl rfl v_ ?_)
  refine aL_X rfl rfl (ae_ rfl rfl (.inr ⟨rfl, rfl, rfl⟩) g_ va_ (fp_ hs (fun x hx => by have := hk x hx; omega) (by omega) (by decide) (nt_ hfa n0 n1')) ?_); rintro _ _ ⟨rfl, rfl⟩
  iterate 5 (refine aL_S rfl rfl v_ ?_)
  refine ac_ ?_
  obtain ⟨R, hR⟩ : ∃ R, adS l n1 a = R := ⟨_, rfl⟩
  rw [hR] at hkn ⊢
  obtain ⟨X, e⟩ := R
  obtain ⟨hXe, hXk, hXz, hXl⟩ := hkn
  dsimp only at hXe hXk hXz hXl ⊢
  refine ab_ ?_
  refine ab_ ?_
  refine aa_ kr_ ?_
  (refine aL_S rfl rfl v_ ?_)
  refine ac_ ?_
  refine al_ ?_
  refine ap_ (ι := Nat) (fun i => X.length - i) (fun i => i ≤ X.length) (fun i => [(0, .sl 4 (l.map sEnt) t), (5, .sl 4 (X.map sEnt) false), (6, vInt e), (7, vInt i)]) (fun i => (σ.set o3 (.cells (sAdm a).cells))) 0 ?_ ?_ ?_ ?_
  ·exact Nat.zero_le _
  ·exact cv_
  ·exact Store.Wk.refl _
  rintro i hi
  simp only [ar_, au_]
  refine ab_ ?_
  refine ab_ ?_
  refine aa_ kr_ ?_
  iterate 4 (refine aL_S rfl rfl v_ ?_)
  refine ac_ ?_
  refine ad_ v_ (fun hc5 => ?_) (fun hc5 => ?_)
  ·replace hc5 := nm_ hc5
   refine ah_ ?_
   refine ab_ ?_
   refine al_ ?_
   refine ab_ ?_
   obtain ⟨x, hx⟩ := aA_ (l := X) (k := i) (by omega)
   have hxk := hXk x (List.mem_of_getElem? hx)
   have he0 : e = 0 := by
    rcases hXe with h | h
    ·rw [h] at hx; simp at hx
    ·exact h
   have hxs : x.key.size ≤ 900000 := by have := hXz x (List.mem_of_getElem? hx); omega
   have R := hx
   refine aa_ kr_ ?_
   iterate 3 (refine aL_S rfl rfl v_ ?_)
   refine ay_ rfl rfl v_ rfl vg_ ?_
   refine ay_ rfl rfl v_ rfl vg_ ?_
   refine ay_ rfl rfl v_ rfl vg_ ?_
   refine ay_ rfl rfl v_ rfl vg_ ?_
   refine ay_ rfl rfl v_ rfl vg_ ?_
   refine bQ_ rfl rfl v_ rfl (fun hb => aK_ (by rfl) (by rfl) (.inr ⟨by rfl, by rfl, by rfl⟩) g_ cg_ (eX_ hxs)) ?_
   rw [hxk]
   refine ay_ rfl rfl v_ rfl vg_ ?_
   (refine aL_S rfl rfl v_ ?_)
   refine ac_ ?_
   refine ad_ v_ (fun hc7 => ?_) (fun hc7 => ?_)
   ·replace hc7 := nm_ hc7
    simp [he0] at hc7
   ·replace hc7 := nm_ hc7
    refine ah_ ?_
    refine aa_ kr_ ?_
    iterate 3 (refine aL_S rfl rfl v_ ?_)
    refine ac_ ?_
    refine aJ_ (ι := Nat) (i := i) (i + 1) ?_ ?_ ?_ ?_
    ·omega
    ·exact (by omega)
    ·exact cv_
    ·exact sub_
  ·replace hc5 := nm_ hc5
   refine ax_ ?_
   refine ag_ ?_
   refine ag_ ?_
   refine aq_ ?_
   refine ab_ ?_
   refine aa_ kr_ ?_
   iterate 2 (refine aL_S rfl rfl v_ ?_)
   refine aL_X rfl rfl (ae_ rfl rfl (.inr ⟨rfl, rfl, rfl⟩) g_ va_ (fp_ (a := ad7) hs (fun x hx => by have := hk x hx; omega) (by omega) (by decide) (sE_ (by decide) (by decide) (by decide))) ?_); rintro _ _ ⟨rfl, rfl⟩
   iterate 5 (refine aL_S rfl rfl v_ ?_)
   refine ac_ ?_
   obtain ⟨R, hR⟩ : ∃ R, adS l n1 ad7 = R := ⟨_, rfl⟩
   have hA := m1_ (who := n1) (a := ad7) rfl hok pS_
   rw [hR] at hA ⊢
   obtain ⟨Y, f⟩ := R
   dsimp only at hA ⊢
   refine ab_ ?_
   refine ab_ ?_
   refine aa_ kr_ ?_
   iterate 2 (refine aL_S rfl rfl v_ ?_)
   refine ac_ ?_
   refine ad_ v_ (fun hc10 => ?_) (fun hc10 => ?_)
   ·replace hc10 := nm_ hc10
    have hfin : f ≠ 5 ∨ (bT_ l).length = 0 := by
     by_cases hm : (bT_ l).length = 0
     ·exact .inr hm
     ·left
      rw [if_neg hm] at hA
      rcases hv_ (who := n1) hok pS_ hm with h | h
      ·rw [if_pos h] at hA; exact absurd (Prod.mk.inj hA).2 (by simpa using hc10)
      ·rw [if_neg (by omega)] at hA
       rw [(Prod.mk.inj hA).2, h]; decide
    refine ab_ ?_
    refine aa_ kr_ ?_
    iterate 3 (refine aL_S rfl rfl v_ ?_)
    refine ay_ rfl rfl v_ rfl vg_ ?_
    refine bQ_ rfl rfl v_ rfl (fun hb => aK_ (by rfl) (by rfl) (.inr ⟨by rfl, by rfl, by rfl⟩) g_ cg_ (kq_ (by omega) (fun x hx => by have := hk x hx; omega))) ?_
    refine ay_ rfl rfl v_ rfl vg_ ?_
    refine ay_ rfl rfl v_ rfl vg_ ?_
    iterate 2 (refine aL_S rfl rfl v_ ?_)
    refine b8_ rfl rfl v_ rfl (fun hb => aK_ (by rfl) (by rfl) (.inr ⟨by rfl, by rfl, by rfl⟩) g_ cg_ (fu_)) ?_
    iterate 2 (refine aL_S rfl rfl v_ ?_)
    refine ac_ ?_
    refine am_ ?_
    refine ai_ (σ' := σ) v_ sub_ ?_
    refine ⟨?_, rfl⟩
    rcases hfin with h | h
    ·simp [h]
    ·simp [h]
   ·replace hc10 := nm_ hc10
    obtain rfl : f = 0 := by simpa using hc10
    have hm : ¬ (bT_ l).length = 0 := fun hm => by
     rw [if_pos hm] at hA
     have := (Prod.mk.inj hA).2
     omega
    rw [if_neg hm] at hA
    have h0 : (clMv l n1 (bh_ l)).2 = 0 := by
     rcases hv_ (who := n1) hok pS_ hm with h | h
     ·exact h
     ·rw [if_neg (by omega)] at hA
      have := (Prod.mk.inj hA).2
      omega
    rw [if_pos h0] at hA
    obtain ⟨hY, -⟩ := Prod.mk.inj hA
    have hC := k5_ hm h0
    have hQ := quiet hok hm h0
    rw [← hY] at hC hQ
    have hp := hC.puts.puts
    have hfew := hC.puts.few
    have hjoY := rB_ hp hok (by omega)
    have hleY := oI_ Y l
    have hcl := pl_ (jnS l Y) (by omega)
    have hck := fun w (h : w ∈ cM_ (jnS l Y)) => nk_ hQ.own hQ.evn h
    refine ah_ ?_
    refine ab_ ?_
    refine aa_ kr_ ?_
    iterate 2 (refine aL_S rfl rfl v_ ?_)
    refine ac_ ?_
    refine ab_ ?_
    refine ab_ ?_
    refine aa_ kr_ ?_
    (refine aL_S rfl rfl v_ ?_)
    refine ac_ ?_
    refine al_ ?_
    refine ap_ (ι := Nat × Bool) (fun ⟨i, u⟩ => Y.length - i) (fun ⟨i, u⟩ => i ≤ Y.length) (fun ⟨i, u⟩ => [(8, .sl 4 (Y.map sEnt) false), (10, .sl 4 ((jnS l (Y.take i)).map sEnt) u), (11, vInt i)]) (fun ⟨i, u⟩ => (σ.set o3 (.cells (sAdm a).cells))) (0, t) ?_ ?_ ?_ ?_
    ·exact Nat.zero_le _
    ·exact cv_
    ·exact Store.Wk.refl _
    rintro ⟨i, u⟩ hi2
    simp only [ar_, au_]
    refine ab_ ?_
    refine ab_ ?_
    refine aa_ kr_ ?_
    iterate 4 (refine aL_S rfl rfl v_ ?_)
    refine ac_ ?_
    refine ad_ v_ (fun hc14 => ?_) (fun hc14 => ?_)
    ·replace hc14 := nm_ hc14
     refine ah_ ?_
     refine ab_ ?_
     refine al_ ?_
     refine ab_ ?_
     obtain ⟨x, hx⟩ := aA_ (l := Y) (k := i) (by omega)
     have hst := pC_ (a := l) hx
     have hle := oI_ (Y.take i) l
     rw [List.length_take] at hle
     have hxo := (hp.ok x (List.mem_of_getElem? hx)).1
     have hjo := rB_ (hp.take i) hok (by rw [List.length_take]; omega)
     have hpe := rP_ hjo hxo (by omega)
     have R := hx
     refine aa_ kr_ ?_
     iterate 5 (refine aL_S rfl rfl v_ ?_)
     refine aL_X rfl rfl (ae_ rfl rfl (.inr ⟨rfl, rfl, rfl⟩) g_ va_ (rT_ (y := x) (by omega) (fun z hz => (gM_ hjo z hz).1) (rg_ hxo)) ?_); rintro _ _ ⟨rfl, rfl⟩
     iterate 5 (refine aL_S rfl rfl v_ ?_)
     refine ac_ ?_
     rw [hpe]
     refine ab_ ?_
     refine ab_ ?_
     refine aa_ kr_ ?_
     iterate 2 (refine aL_S rfl rfl v_ ?_)
     refine ac_ ?_
     refine ad_ v_ (fun hc17 => ?_) (fun hc17 => ?_)
     ·replace hc17 := nm_ hc17
      exact absurd hc17 (by decide)
     ·replace hc17 := nm_ hc17
      refine ah_ ?_
      refine aa_ kr_ ?_
      iterate 2 (refine aL_S rfl rfl v_ ?_)
      refine ac_ ?_
      refine aa_ kr_ ?_
      iterate 3 (refine aL_S rfl rfl v_ ?_)
      refine ac_ ?_
      refine aJ_ (ι := Nat × Bool) (i := ⟨i, u⟩) (i + 1, false) ?_ ?_ ?_ ?_
      ·show Y.length - (i + 1) < Y.length - i; omega
      ·(show i + 1 ≤ Y.length; omega)
      ·have R := hst; exact cv_
      ·exact sub_
    ·replace hc14 := nm_ hc14
     refine ax_ ?_
     refine ag_ ?_
     refine ag_ ?_
     refine aq_ ?_
     refine ab_ ?_
     obtain rfl : i = Y.length := by omega
     rw [List.take_length]
     refine aa_ kr_ ?_
     (refine aL_S rfl rfl v_ ?_)
     refine aL_X rfl rfl (ae_ rfl rfl (.inr ⟨rfl, rfl, rfl⟩) g_ va_ (oK_ (l := jnS l Y) (by omega) (fun z hz => (gM_ hjoY z hz).1) (fun z hz => by have := (gM_ hjoY z hz).2; omega)) ?_); rintro _ _ ⟨rfl, rfl⟩
     (refine aL_S rfl rfl v_ ?_)
     refine ac_ ?_
     refine ab_ ?_
     refine ab_ ?_
     refine aa_ kr_ ?_
     (refine aL_S rfl rfl v_ ?_)
     refine ac_ ?_
     refine al_ ?_
     refine ap_ (ι := Nat) (fun j => (cM_ (jnS l Y)).length - j) (fun j => j ≤ (cM_ (jnS l Y)).length) (fun j => [(10, .sl 4 ((jnS l Y).map sEnt) u), (14, .sl 2 ((cM_ (jnS l Y)).map sWn) false), (15, vInt j)]) (fun j => (σ.set o3 (.cells (sAdm a).cells))) 0 ?_ ?_ ?_ ?_
     ·exact Nat.zero_le _
     ·exact cv_
     ·exact Store.Wk.refl _
     rintro j hj
     simp only [ar_, au_]
     refine ab_ ?_
     refine ab_ ?_
     refine aa_ kr_ ?_
     iterate 4 (refine aL_S rfl rfl v_ ?_)
     refine ac_ ?_
     refine ad_ v_ (fun hc22 => ?_) (fun hc22 => ?_)
     ·replace hc22 := nm_ hc22
      refine ah_ ?_
      refine ab_ ?_
      refine al_ ?_
      refine ab_ ?_
      obtain ⟨w, hw⟩ := aA_ (l := cM_ (jnS l Y)) (k := j) (by omega)
      have hwk := hck w (List.mem_of_getElem? hw)
      have R := hw
      refine aa_ kr_ ?_
      iterate 7 (refine aL_S rfl rfl v_ ?_)
      refine ay_ rfl rfl v_ rfl vg_ ?_
      refine ay_ rfl rfl v_ rfl vg_ ?_
      refine ay_ rfl rfl v_ rfl vg_ ?_
      refine ay_ rfl rfl v_ rfl vg_ ?_
      refine ay_ rfl rfl v_ rfl vg_ ?_
      refine ay_ rfl rfl v_ rfl vg_ ?_
      (refine aL_S rfl rfl v_ ?_)
      refine ac_ ?_
      refine ad_ v_ (fun hc24 => ?_) (fun hc24 => ?_)
      ·replace hc24 := nm_ hc24
       rcases hc24 with h | h <;> simp_all
      ·replace hc24 := nm_ hc24
       refine ah_ ?_
       refine aa_ kr_ ?_
       iterate 3 (refine aL_S rfl rfl v_ ?_)
       refine ac_ ?_
       refine aJ_ (ι := Nat) (i := j) (j + 1) ?_ ?_ ?_ ?_
       ·omega
       ·exact (by omega)
       ·exact cv_
       ·exact sub_
     ·replace hc22 := nm_ hc22
      refine ax_ ?_
      refine ag_ ?_
      refine ag_ ?_
      refine aq_ ?_
      refine ab_ ?_
      have owl16 : (aF_ (jnS l Y) 16).length = 16 := by simp [aF_]
      have R := owl16
      refine aa_ kr_ ?_
      (refine aL_S rfl rfl v_ ?_)
      refine aL_X rfl rfl (ae_ rfl rfl (.inr ⟨rfl, rfl, rfl⟩) g_ va_ (iA_ (n := 16) (by decide) (by decide) (by omega) (fun z hz => (gM_ hjoY z hz).1)) ?_); rintro _ _ ⟨rfl, rfl⟩
      iterate 3 (refine aL_S rfl rfl v_ ?_)
      first | (refine bA_ wn_ rfl ?_) | (refine ch_ (as_ rfl rfl v_ (by rfl)) rfl (ae_ rfl rfl (.inr ⟨rfl, rfl, rfl⟩) g_ va_ (fu_) ?_); rintro _ _ ⟨rfl, rfl⟩)
      iterate 2 (refine aL_S rfl rfl v_ ?_)
      refine ac_ ?_
      refine am_ ?_
      refine ai_ (σ' := σ) v_ sub_ ?_
      exact ⟨rfl, rfl⟩
end Go.Proofs.YtkcmbjodladflaaGreatDoor
end
