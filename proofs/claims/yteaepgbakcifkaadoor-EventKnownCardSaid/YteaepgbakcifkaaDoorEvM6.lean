/- Events, plainly: the program's reading and the document's. -/
import Derived.Test.YteaepgbakcifkaaDoorEvM5
set_option linter.unusedVariables false
set_option linter.unusedSimpArgs false
namespace Go.Proofs.YteaepgbakcifkaaDoor
open Go.RowKit
/-- how a number N is read -/
structure NOk (N : St → Int × St) : Prop where
  bad : (N ([], true)).2 = ([], true)
  shape : ∀ l, (N (l, false)).2.2 = true → (N (l, false)).2.1 = []
  inv : ∀ l v r, IsB l → N (l, false) = (v, r, false) → ∃ u, l = encU u ++ r ∧ (v ≤ 1099511627776 → v = u)
  fwd : ∀ v r, 1 ≤ v → v ≤ 1099511627776 → N (encU v ++ r, false) = (v, r, false)
def nP (s : St) : Int × St := (min (stU s).1 1099511627777, (stU s).2)
def nD (s : St) : Int × St := if 1099511627776 < (stU s).1 then (0, [], true) else stU s
theorem nP_ok : NOk nP where
  bad := rfl
  shape := fun l h => stU_shape (l, false) (by simp) h
  inv := by
    intro l v r hB h
    unfold nP at h
    rcases hu : stU (l, false) with ⟨u, s⟩
    rw [hu] at h
    simp only [Prod.mk.injEq] at h
    obtain ⟨h1, h2⟩ := h
    subst h2
    obtain ⟨h3, h4⟩ := stU_inv hB hu
    exact ⟨u, h3, fun hv => by omega⟩
  fwd := by
    intro v r h1 h2
    unfold nP
    rw [stU_enc v r (by omega) (by omega)]
    show (min v 1099511627777, _) = _
    rw [Int.min_eq_left (by omega)]
theorem nD_ok : NOk nD where
  bad := rfl
  shape := fun l h => by
    unfold nD at h ⊢
    split
    · rfl
    · rename_i hc
      rw [if_neg hc] at h
      exact stU_shape (l, false) (by simp) h
  inv := by
    intro l v r hB h
    unfold nD at h
    split at h
    · simp at h
    · obtain ⟨h3, h4⟩ := stU_inv hB h
      exact ⟨v, h3, fun _ => rfl⟩
  fwd := by
    intro v r h1 h2
    unfold nD
    rw [stU_enc v r (by omega) (by omega)]
    rw [if_neg (by show ¬ 1099511627776 < v; omega)]
/-- a field, read, under limits -/
def gpF (mT mY mS : Int) (N : St → Int × St) (p : EV × St) (c : UInt8) : EV × St :=
  if c = 82 then ({ p.1 with r := (stSmall 64 p.2).1 }, (stSmall 64 p.2).2) else if c = 84 then ({ p.1 with t := (stSmall mT p.2).1 }, (stSmall mT p.2).2) else if c = 89 then ({ p.1 with y := (stSmall mY p.2).1 }, (stSmall mY p.2).2)
  else if c = 78 then ({ p.1 with n := (N p.2).1 }, (N p.2).2) else if c = 77 then ({ p.1 with nm := strOf (stS mS p.2).1 }, (stS mS p.2).2) else if c = 75 then ({ p.1 with ky := strOf (stS mS p.2).1 }, (stS mS p.2).2)
  else if c = 68 then ({ p.1 with dt := strOf (stS 900 p.2).1 }, (stS 900 p.2).2) else p
theorem gtF_eq : gtF = gpF 16 9 16 nP := rfl
def gdF : EV × St → UInt8 → EV × St := gpF 64 64 64 nD
theorem stSmall_shape (m : Int) (l : List Int) (h : (stSmall m (l, false)).2.2 = true) : (stSmall m (l, false)).2.1 = [] := by
  unfold stSmall at h ⊢
  split
  · rfl
  · rename_i hc
    rw [if_neg hc] at h
    exact absurd (.inl h) hc
theorem stS_shape (m : Int) (l : List Int) (h : (stS m (l, false)).2.2 = true) : (stS m (l, false)).2.1 = [] := by
  unfold stS at h ⊢
  split
  · rfl
  · rename_i hc
    rw [if_neg hc] at h
    cases h
theorem gp82 (mT mY mS : Int) (N : St → Int × St) (p : EV × St) : gpF mT mY mS N p 82 = ({ p.1 with r := (stSmall 64 p.2).1 }, (stSmall 64 p.2).2) := by simp [gpF]
theorem gp84 (mT mY mS : Int) (N : St → Int × St) (p : EV × St) : gpF mT mY mS N p 84 = ({ p.1 with t := (stSmall mT p.2).1 }, (stSmall mT p.2).2) := by simp [gpF]
theorem gp89 (mT mY mS : Int) (N : St → Int × St) (p : EV × St) : gpF mT mY mS N p 89 = ({ p.1 with y := (stSmall mY p.2).1 }, (stSmall mY p.2).2) := by simp [gpF]
theorem gp78 (mT mY mS : Int) (N : St → Int × St) (p : EV × St) : gpF mT mY mS N p 78 = ({ p.1 with n := (N p.2).1 }, (N p.2).2) := by simp [gpF]
theorem gp77 (mT mY mS : Int) (N : St → Int × St) (p : EV × St) : gpF mT mY mS N p 77 = ({ p.1 with nm := strOf (stS mS p.2).1 }, (stS mS p.2).2) := by simp [gpF]
theorem gp75 (mT mY mS : Int) (N : St → Int × St) (p : EV × St) : gpF mT mY mS N p 75 = ({ p.1 with ky := strOf (stS mS p.2).1 }, (stS mS p.2).2) := by simp [gpF]
theorem gp68 (mT mY mS : Int) (N : St → Int × St) (p : EV × St) : gpF mT mY mS N p 68 = ({ p.1 with dt := strOf (stS 900 p.2).1 }, (stS 900 p.2).2) := by simp [gpF]
theorem sets (e x : EV) : setF e x 82 = { x with r := e.r } ∧ setF e x 84 = { x with t := e.t } ∧ setF e x 89 = { x with y := e.y } ∧ setF e x 78 = { x with n := e.n } ∧ setF e x 77 = { x with nm := e.nm } ∧ setF e x 75 = { x with ky := e.ky } ∧ setF e x 68 = { x with dt := e.dt } := by simp [setF]
theorem encFs (e : EV) : encFld e 82 = encU e.r ∧ encFld e 84 = encU e.t ∧ encFld e 89 = encU e.y ∧ encFld e 78 = encU e.n ∧ encFld e 77 = encS (ofStr e.nm) ∧ encFld e 75 = encS (ofStr e.ky) ∧ encFld e 68 = encS (ofStr e.dt) := by simp [encFld]
theorem stSmall_enc (v m : Int) (l : List Int) (h0 : 0 ≤ v) (h1 : v ≤ m) (h2 : v ≤ 2147483647) : stSmall m (encU v ++ l, false) = (v, l, false) := by
  have := stU_enc v l h0 (by omega)
  unfold stSmall
  rw [this]
  dsimp only
  rw [if_neg (by simp; omega)]
theorem isB_encS {s r : List Int} (h : IsB (encS s ++ r)) : IsB s := by
  unfold encS at h
  rw [List.append_assoc] at h
  exact isB_appl (isB_app h)
theorem gp_back (mT mY mS : Int) {N : St → Int × St} (hN : NOk N) (x y : EV) (l r : List Int) (c : UInt8) (hc : ltr c) (hB : IsB l) (h : gpF mT mY mS N (x, l, false) c = (y, r, false)) : (∃ u, l = u ++ r) ∧ (okF y c.toNat = true → y = setF y x c ∧ l = encFld y c ++ r) := by
  rcases hc with rfl | rfl | rfl | rfl | rfl | rfl | rfl
  · rw [gp82] at h
    rcases hs : stSmall 64 (l, false) with ⟨v, s⟩
    rw [hs] at h
    simp only [Prod.mk.injEq] at h
    obtain ⟨rfl, rfl⟩ := h
    obtain ⟨h1, -, -⟩ := stSmall_inv hB hs
    refine ⟨⟨_, h1⟩, fun _ => ⟨by rw [(sets _ _).1], by rw [(encFs _).1]; exact h1⟩⟩
  · rw [gp84] at h
    rcases hs : stSmall mT (l, false) with ⟨v, s⟩
    rw [hs] at h
    simp only [Prod.mk.injEq] at h
    obtain ⟨rfl, rfl⟩ := h
    obtain ⟨h1, -, -⟩ := stSmall_inv hB hs
    refine ⟨⟨_, h1⟩, fun _ => ⟨by rw [(sets _ _).2.1], by rw [(encFs _).2.1]; exact h1⟩⟩
  · rw [gp89] at h
    rcases hs : stSmall mY (l, false) with ⟨v, s⟩
    rw [hs] at h
    simp only [Prod.mk.injEq] at h
    obtain ⟨rfl, rfl⟩ := h
    obtain ⟨h1, -, -⟩ := stSmall_inv hB hs
    refine ⟨⟨_, h1⟩, fun _ => ⟨by rw [(sets _ _).2.2.1], by rw [(encFs _).2.2.1]; exact h1⟩⟩
  · rw [gp78] at h
    rcases hs : N (l, false) with ⟨v, s⟩
    rw [hs] at h
    simp only [Prod.mk.injEq] at h
    obtain ⟨rfl, rfl⟩ := h
    obtain ⟨u, h1, h2⟩ := hN.inv l v r hB hs
    refine ⟨⟨_, h1⟩, fun hok => ⟨by rw [(sets _ _).2.2.2.1], ?_⟩⟩
    have h3 := okF_n hok
    rw [(encFs _).2.2.2.1, h1]
    rw [h2 h3.2]
  · rw [gp77] at h
    rcases hs : stS mS (l, false) with ⟨v, s⟩
    rw [hs] at h
    simp only [Prod.mk.injEq] at h
    obtain ⟨rfl, rfl⟩ := h
    obtain ⟨h1, -⟩ := stS_inv hB hs
    refine ⟨⟨_, h1⟩, fun _ => ⟨by rw [(sets _ _).2.2.2.2.1], ?_⟩⟩
    rw [(encFs _).2.2.2.2.1, ofStr_strOf (isB_encS (by rw [← h1]; exact hB))]
    exact h1
  · rw [gp75] at h
    rcases hs : stS mS (l, false) with ⟨v, s⟩
    rw [hs] at h
    simp only [Prod.mk.injEq] at h
    obtain ⟨rfl, rfl⟩ := h
    obtain ⟨h1, -⟩ := stS_inv hB hs
    refine ⟨⟨_, h1⟩, fun _ => ⟨by rw [(sets _ _).2.2.2.2.2.1], ?_⟩⟩
    rw [(encFs _).2.2.2.2.2.1, ofStr_strOf (isB_encS (by rw [← h1]; exact hB))]
    exact h1
  · rw [gp68] at h
    rcases hs : stS 900 (l, false) with ⟨v, s⟩
    rw [hs] at h
    simp only [Prod.mk.injEq] at h
    obtain ⟨rfl, rfl⟩ := h
    obtain ⟨h1, -⟩ := stS_inv hB hs
    refine ⟨⟨_, h1⟩, fun _ => ⟨by rw [(sets _ _).2.2.2.2.2.2], ?_⟩⟩
    rw [(encFs _).2.2.2.2.2.2, ofStr_strOf (isB_encS (by rw [← h1]; exact hB))]
    exact h1
theorem gp_ok (mT mY mS : Int) (hT : 15 ≤ mT) (hY : 9 ≤ mY) (hS : 16 ≤ mS) {N : St → Int × St} (hN : NOk N) : StepOk (gpF mT mY mS N) where
  kind := by
    intro p c
    unfold gpF
    repeat' split
    all_goals rfl
  bad := by
    intro x c
    have h1 : ∀ m, stSmall m (([], true) : St) = (0, [], true) := fun m => by unfold stSmall; rw [stU_bad _ rfl]; simp
    have h2 : ∀ m, stS m (([], true) : St) = ([], [], true) := fun m => by unfold stS; rw [stU_bad _ rfl]; simp
    unfold gpF
    simp only [h1, h2]
    repeat' split
    all_goals first | rfl | exact hN.bad
  shape := by
    intro x l c hc h
    rcases hc with rfl | rfl | rfl | rfl | rfl | rfl | rfl
    · rw [gp82] at h ⊢; exact stSmall_shape _ _ h
    · rw [gp84] at h ⊢; exact stSmall_shape _ _ h
    · rw [gp89] at h ⊢; exact stSmall_shape _ _ h
    · rw [gp78] at h ⊢; exact hN.shape _ h
    · rw [gp77] at h ⊢; exact stS_shape _ _ h
    · rw [gp75] at h ⊢; exact stS_shape _ _ h
    · rw [gp68] at h ⊢; exact stS_shape _ _ h
  back := fun x y l r c hc hB h hok => (gp_back mT mY mS hN x y l r c hc hB h).2 hok
  isB := fun x y q r c hc hB h => by
    obtain ⟨⟨u, hu⟩, -⟩ := gp_back mT mY mS hN x y q r c hc hB h
    rw [hu] at hB
    exact isB_app hB
  fwd := by
    intro e x r c hc hok
    rcases hc with rfl | rfl | rfl | rfl | rfl | rfl | rfl
    · have := okF_r hok
      rw [gp82, (sets _ _).1, (encFs _).1, stSmall_enc _ _ _ (by omega) (by omega) (by omega)]
    · have := okF_t hok
      rw [gp84, (sets _ _).2.1, (encFs _).2.1, stSmall_enc _ _ _ (by omega) (by omega) (by omega)]
    · have := okF_y hok
      rw [gp89, (sets _ _).2.2.1, (encFs _).2.2.1, stSmall_enc _ _ _ (by omega) (by omega) (by omega)]
    · have := okF_n hok
      rw [gp78, (sets _ _).2.2.2.1, (encFs _).2.2.2.1, hN.fwd _ _ this.1 this.2]
    · have := okF_nm hok
      rw [gp77, (sets _ _).2.2.2.2.1, (encFs _).2.2.2.2.1, stS_enc _ _ _ (by rw [ofStr_len]; omega) (by rw [ofStr_len]; omega), strOf_ofStr]
    · have := okF_ky hok
      rw [gp75, (sets _ _).2.2.2.2.2.1, (encFs _).2.2.2.2.2.1, stS_enc _ _ _ (by rw [ofStr_len]; omega) (by rw [ofStr_len]; omega), strOf_ofStr]
    · have := okF_dt hok
      rw [gp68, (sets _ _).2.2.2.2.2.2, (encFs _).2.2.2.2.2.2, stS_enc _ _ _ (by rw [ofStr_len]; omega) (by rw [ofStr_len]; omega), strOf_ofStr]
theorem gtF_ok : StepOk gtF := gtF_eq ▸ gp_ok 16 9 16 (by omega) (by omega) (by omega) nP_ok
theorem gdF_ok : StepOk gdF := gp_ok 64 64 64 (by omega) (by omega) (by omega) nD_ok
theorem flds_nodup (k : Int) : (flds k).Nodup := by
  unfold flds
  repeat' split
  all_goals decide
/-- what a reading comes to -/
def resG (F : EV × St → UInt8 → EV × St) (zs : List Int) : EV × Int :=
  if ((!(getG F zs (flds (getK zs))).2.2 && (getG F zs (flds (getK zs))).2.1.isEmpty) && goodE (getG F zs (flds (getK zs))).1) = true then ((getG F zs (flds (getK zs))).1, 0) else (kindE 0, 2)
theorem resG_yes {F : EV × St → UInt8 → EV × St} (hF : StepOk F) {e : EV} (he : goodE e = true) : resG F (encEv e) = (e, 0) := by
  obtain ⟨h1, h2, h3⟩ := (goodE_iff e).1 he
  have hk := flds_kind h1
  have hg := getG_fwd hF e hk [] (flds e.k) (flds_ltr e.k) h3 []
  rw [List.append_nil] at hg
  have hK : getK (encEv e) = e.k := by
    have := stSmall_enc e.k 9 ((flds e.k).flatMap (encFld e)) (by omega) (by omega) (by omega)
    unfold getK encEv encL
    rw [this]
  have hg : getG F (encEv e) (flds e.k) = (onlyE e (flds e.k), [], false) := hg
  unfold resG
  rw [hK, hg, h2]
  rw [if_pos (by simp [he])]
theorem resG_back {F : EV × St → UInt8 → EV × St} (hF : StepOk F) {zs : List Int} (hB : IsB zs) (h : (resG F zs).2 = 0) : goodE (resG F zs).1 = true ∧ zs = encEv (resG F zs).1 := by
  unfold resG at h ⊢
  split at h
  · rename_i hc
    rw [if_pos hc]
    simp only [Bool.and_eq_true] at hc
    obtain ⟨⟨h1, h2⟩, h3⟩ := hc
    rcases hg : getG F zs (flds (getK zs)) with ⟨e, s⟩
    rw [hg] at h1 h2 h3
    obtain ⟨r, b⟩ := s
    have hb : b = false := by simpa using h1
    have hr : r = [] := by simpa using h2
    subst hb hr
    dsimp only at h3 ⊢
    -- the kind that was read is the event's
    have hk : e.k = getK zs := by
      have := fold_k hF (flds (getK zs)) (kindE (getK zs), (stSmall 9 (zs, false)).2)
      unfold getG at hg
      rw [hg] at this
      exact this
    obtain ⟨g1, g2, g3⟩ := (goodE_iff e).1 h3
    rw [hk] at g3
    obtain ⟨hz, -, -⟩ := getG_back hF zs hB (flds (getK zs)) (flds_ltr _) (flds_nodup _) e [] hg g3
    refine ⟨h3, ?_⟩
    rw [hz, List.append_nil]
    unfold encEv
    rw [hk]
  · cases h
theorem resG_same {F G : EV × St → UInt8 → EV × St} (hF : StepOk F) (hG : StepOk G) {zs : List Int} (hB : IsB zs) : resG F zs = resG G zs := by
  have key : ∀ {F G : EV × St → UInt8 → EV × St}, StepOk F → StepOk G → (resG F zs).2 = 0 → resG F zs = resG G zs := by
    intro F G hF hG h
    obtain ⟨h1, h2⟩ := resG_back hF hB h
    generalize (resG F zs).1 = e at h1 h2
    rw [h2, resG_yes hF h1, resG_yes hG h1]
  have two : ∀ F : EV × St → UInt8 → EV × St, (resG F zs).2 = 0 ∨ resG F zs = (kindE 0, 2) := by
    intro F
    unfold resG
    split
    · exact .inl rfl
    · exact .inr rfl
  rcases two F with h | h
  · exact key hF hG h
  · rcases two G with h2 | h2
    · exact (key hG hF h2).symm
    · rw [h, h2]
theorem getE_res (zs : List Int) : getE zs = resG gtF zs := rfl
def getD (zs : List Int) : EV × Int := resG gdF zs
theorem getD_eq {zs : List Int} (hB : IsB zs) : getD zs = getE zs := resG_same gdF_ok gtF_ok hB
theorem isB_join {a b : List Int} (ha : IsB a) (hb : IsB b) : IsB (a ++ b) := isB_of_mem fun x hx => by
  rcases List.mem_append.1 hx with h | h
  · exact isB_mem ha x h
  · exact isB_mem hb x h
theorem encFld_ok (e : EV) (c : UInt8) (hc : ltr c) (h : okF e c.toNat = true) : IsB (encFld e c) ∧ (encFld e c).length ≤ (if c = 68 then 910 else 26) := by
  have hU : ∀ v : Int, 0 ≤ v → v ≤ 18446744073709551615 → IsB (encU v) ∧ (encU v).length ≤ 26 := fun v h0 h1 => ⟨isB_of_mem (encU_byte v h0 h1), by have := (lenU_le v).2; unfold lenU at this; omega⟩
  have hS : ∀ s : ByteArray, s.size ≤ 900 → IsB (encS (ofStr s)) ∧ (encS (ofStr s)).length ≤ 10 + s.size := fun s hs => by
    refine ⟨?_, ?_⟩
    · unfold encS
      rw [ofStr_len]
      exact isB_join (isB_of_mem (encU_byte _ (by omega) (by omega))) (ofStr_isB s)
    · unfold encS
      rw [List.length_append, ofStr_len]
      have := (lenU_le (s.size : Int)).2; unfold lenU at this; omega
  rcases hc with rfl | rfl | rfl | rfl | rfl | rfl | rfl
  · have := okF_r h; rw [(encFs e).1]; exact hU _ (by omega) (by omega)
  · have := okF_t h; rw [(encFs e).2.1]; exact hU _ (by omega) (by omega)
  · have := okF_y h; rw [(encFs e).2.2.1]; exact hU _ (by omega) (by omega)
  · have := okF_n h; rw [(encFs e).2.2.2.1]; exact hU _ (by omega) (by omega)
  · have := okF_nm h; rw [(encFs e).2.2.2.2.1]; have h2 := hS e.nm (by omega); exact ⟨h2.1, by rw [if_neg (by decide)]; omega⟩
  · have := okF_ky h; rw [(encFs e).2.2.2.2.2.1]; have h2 := hS e.ky (by omega); exact ⟨h2.1, by rw [if_neg (by decide)]; omega⟩
  · have := okF_dt h; rw [(encFs e).2.2.2.2.2.2]; have h2 := hS e.dt (by omega); exact ⟨h2.1, by rw [if_pos rfl]; omega⟩
theorem encEv_ok (e : EV) (h : goodE e = true) : IsB (encEv e) ∧ 0 < (encEv e).length ∧ (encEv e).length ≤ 1024 := by
  obtain ⟨h1, -, h3⟩ := (goodE_iff e).1 h
  have hk := flds_kind h1
  have hu := (lenU_le e.k)
  unfold lenU at hu
  have hB : ∀ l : List UInt8, (∀ c ∈ l, ltr c) → (∀ c ∈ l, okF e c.toNat = true) → IsB (l.flatMap (encFld e)) ∧ (l.flatMap (encFld e)).length ≤ (l.map fun c => if c = 68 then 910 else 26).sum := by
    intro l
    induction l with
    | nil => intro _ _; exact ⟨by intro i; simp, by simp⟩
    | cons c l ih =>
      intro g1 g2
      obtain ⟨i1, i2⟩ := ih (fun d hd => g1 d (List.mem_cons_of_mem _ hd)) (fun d hd => g2 d (List.mem_cons_of_mem _ hd))
      obtain ⟨j1, j2⟩ := encFld_ok e c (g1 c (List.mem_cons_self ..)) (g2 c (List.mem_cons_self ..))
      rw [List.flatMap_cons, List.map_cons, List.sum_cons, List.length_append]
      exact ⟨isB_join j1 i1, by omega⟩
  obtain ⟨b1, b2⟩ := hB (flds e.k) (flds_ltr _) h3
  have hsum : ((flds e.k).map fun c => if c = 68 then 910 else 26).sum ≤ 1000 := by
    have : ∀ l : List UInt8, l ∈ [[77, 68], [82, 77, 75], [82, 84, 89], [82, 84, 89, 68], [78], [82, 77], [82], []] → (l.map fun c => if c = 68 then 910 else 26).sum ≤ 1000 := by decide
    apply this
    unfold flds
    repeat' split
    all_goals simp
  unfold encEv encL
  rw [List.length_append]
  exact ⟨isB_join (isB_of_mem (encU_byte _ (by omega) (by omega))) b1, by omega, by omega⟩
theorem getE_enc {e : EV} (h : goodE e = true) : getE (encEv e) = (e, 0) := resG_yes gtF_ok h
end Go.Proofs.YteaepgbakcifkaaDoor
