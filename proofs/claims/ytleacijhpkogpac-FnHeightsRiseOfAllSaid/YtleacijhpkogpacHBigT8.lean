/- The law on who rises (FnHeightsRiseOfAll),a part of its walk: counts,first orders,means: the same. -/
import Derived.Test.YtleacijhpkogpacHGood
import Derived.Test.YtleacijhpkogpacHLawVR
import Derived.Test.YtleacijhpkogpacHRiseP
import Derived.Deep.DeepCutAuto
import Derived.Deep.CutRange
import Derived.Lib.OthersKept
import Derived.Deep.QuietTactic
import Derived.BigQuiet
import Derived.IntWalk
import Derived.Test.YtleacijhpkogpacHCBS
set_option linter.unusedVariables false
set_option linter.unusedSimpArgs false
set_option maxHeartbeats 8000000
set_option maxRecDepth 1000000
namespace Go.Proofs.Ytleacijhpkogpac.HBigT
open Go.RowKit YtleacijhpkogpacW.PrintWords YtleacijhpkogpacW.PrintLast YtleacijhpkogpacW.PrintMore Part HImpl

theorem part47 (fi : List Int) (ct nu de : Int) (q1 q2 q3 : Bool) (AF AG : Option Addr) (cF cG : Nat) (wb : World) {Aa Ab Ac Ad Ae Af Ag Ah Ai Aj Ak Al Am An Ao Ap Aq Ar As At Au Av Aw Ax Ay Az A0 A3 A4 A5 A6 A7 A8 A9 Ba Bb Bc Bd Be Bf Bg Bh Bi Bj Bk Bl Bm Bn B2 B3 B4 B5 B6 B7 B8 B9 Ca Cb Cc Cd Ce Cf Cg Ch Ci Cj Ck Cl Cm Cn Co Cp Cq Cr Cs Ct Cu Cv Cw Cx Cy Cz C0 C1 C2 C7 C8 C9 Da Db Dc Dd De Df Dg Dh Di Dj Dk Dl Dm Dn Do Dp Dq Dr Ds Dt Du Dv Dw Dx Dy Dz D0 D1 D2 D3 D4 D5 D6 D7 D8 D9 Ea Eb Ec Ed Ee Ef Eg Eh Ei Ej Ek El Em En Eo Ep Er Es Et Eu Ev Ew Ex Ey Ez E0 E1 E4 E5 E6 E7 E8 E9 Fa Fb Fc Fd Fe Ff Fg Fh Fi Fj Fk Fl Fm Fn Fo Fp Fq Fr Fs Ft Fu Fv Fw Fx Fy Fz F0 F1 F2 F3 F4 F5 F6 F7 F8 F9 Ga Gb Gc Gd Ge Gf Gg Gh Gi Gj Gk Gl Gm Gn Gp Gq Gr Gs Gt Gu Gv Gw Gx Gy Gz G0 G8 G9 Ha Hb Hc Hd He Hf Hg Hh Hi Hj Hk Hl Hm Hn Ho Hp Hq Hr Hs Ht Hu Hv Hw Hx Hy Hz H1 H2 H3 H4 H5 H6 H7 H8 H9 Ia Ib Ic Ie If Ig Ih Ii Ij Ik Il Im In Io Ip Iq Ir Is It Iu Iv Iw Ix Iy Iz I0 I1 I2 I3 I4 I5 I6 I7 I8 I9 Ja Jb Jc Jd Je Jf Jg Jh Ji Jj Jk Jl Jm Jn Jo Jp Jq Jr Js Jt Ju Jv Jw Jx Jy Jz J0 J1 J2 J3 J4 J5 J6 J7 J8 J9 Ka Kb Kc Ke Kf Kg Kh Ki Kj Kk Kl Km Kn Ko Kp Kq Kr Ks Kt Ku Kv Kw Kx Ky Kz K0 K1 K3 K4 K5 K6 K7 K8 K9 La Lb Lc Ld Le Lf Lg Lh Li Lj Lk Ll Lm Ln Lo Lp Lq Lr Ls Lt Lu Lv Lw Lx Ly Lz L0 L1 L2 L3 L4 L5 L6 L7 L8 L9 Ma Mb Mc Md Me Mf Mg Mh Mi Mj Mk Ml Mm Mn Mo Mp Mq Mr Ms Mt Mu Mv Mw Mx My Mz M0 M1 M2 M3 M4 M5 M6 M7 M8 M9 Na Nb Nc Nd Nf Ng Nh Ni Nj Nk Nl Nm Nn No Np Nq Nr Ns Nt Nu Nv Nw Nx Ny Nz N0 N1 N2 N3 N4 N5 N6 N7 N8 N9 Oa Ob Oc Od Oe Of Og Oh Oi Oj Ok Ol Om On Oo Op Oq Os Ot Ou Ov Ow Ox Oy Oz O0 O1 O2 O3 O4 O5 O6 O7 O8 O9 Pa Pb Pc Pd Pe Pf Pg Ph Pi Pj Pk Pl Pm Pn Po : Value} (wr : World)
    (HB : Aside0 (Below wb.heap.size wb wr))
    (S1 : Aside0 (∀ W,Below wb.heap.size wb W → Calls Try.prog 29 #[.slice AF fi.length cF,.slice AG fi.length cG] W fun e w' => e = .returned (.bool true) ∧ Drawn0 W w'))
    (Q' : Exit → Act → World → Prop) (K' : Act → World → Prop)
    (hK : ∀ ⦃u375 u376 u377 u378 u379 u380 u381 u382 u383 u384 u385 u386 u387 u388 u389 u390 u391 u392 u393 u394 u395 u396 u397 u398 u399 u400 u401 u402 u403 u404 u405 u406 u407 P6 : Value⦄ ⦃w' : World⦄,P6 = .bool false → Aside0 (Below wb.heap.size wb w') → K' ⟨#[Aa,Ab,Ac,Ad,Ae,Af,Ag,Ah,Ai,Aj,Ak,Al,Am,An,Ao,Ap,Aq,Ar,As,At,Au,Av,Aw,Ax,Ay,Az,A0,A3,A4,A5,A6,A7,A8,A9,Ba,Bb,Bc,Bd,Be,Bf,Bg,Bh,Bi,Bj,Bk,Bl,Bm,Bn,.int .i64 ct,.bool q1,.int .i64 ct,.bool q1,.slice AF fi.length cF,.bool q2,.slice AG fi.length cG,.bool q2,.int .i64 nu,.int .i64 de,.bool q3,.int .i64 nu,.int .i64 de,.bool q3,B2,B3,B4,B5,B6,B7,B8,B9,Ca,Cb,Cc,Cd,Ce,Cf,Cg,Ch,Ci,Cj,Ck,Cl,Cm,Cn,Co,Cp,Cq,Cr,Cs,Ct,Cu,Cv,Cw,Cx,Cy,Cz,C0,C1,C2,C7,C8,C9,Da,Db,Dc,Dd,De,Df,Dg,Dh,Di,Dj,Dk,Dl,Dm,Dn,Do,Dp,Dq,Dr,Ds,Dt,Du,Dv,Dw,Dx,Dy,Dz,D0,D1,D2,D3,D4,D5,D6,D7,D8,D9,Ea,Eb,Ec,Ed,Ee,Ef,Eg,Eh,Ei,Ej,Ek,El,Em,En,Eo,Ep,Er,Es,Et,Eu,Ev,Ew,Ex,Ey,Ez,E0,E1,E4,E5,E6,E7,E8,E9,Fa,Fb,Fc,Fd,Fe,Ff,Fg,Fh,Fi,Fj,Fk,Fl,Fm,Fn,Fo,Fp,Fq,Fr,Fs,Ft,Fu,Fv,Fw,Fx,Fy,Fz,F0,F1,F2,F3,F4,F5,F6,F7,F8,F9,Ga,Gb,Gc,Gd,Ge,Gf,Gg,Gh,Gi,Gj,Gk,Gl,Gm,Gn,Gp,Gq,Gr,Gs,Gt,Gu,Gv,Gw,Gx,Gy,Gz,G0,G8,G9,Ha,Hb,Hc,Hd,He,Hf,Hg,Hh,Hi,Hj,Hk,Hl,Hm,Hn,Ho,Hp,Hq,Hr,Hs,Ht,Hu,Hv,Hw,Hx,Hy,Hz,H1,H2,H3,H4,H5,H6,H7,H8,H9,Ia,Ib,Ic,Ie,If,Ig,Ih,Ii,Ij,Ik,Il,Im,In,Io,Ip,Iq,Ir,Is,It,Iu,Iv,Iw,Ix,Iy,Iz,I0,I1,I2,I3,I4,I5,I6,I7,I8,I9,Ja,Jb,Jc,Jd,Je,Jf,Jg,Jh,Ji,Jj,Jk,Jl,Jm,Jn,Jo,Jp,Jq,Jr,Js,Jt,Ju,Jv,Jw,Jx,Jy,Jz,J0,J1,J2,J3,J4,J5,J6,J7,J8,J9,Ka,Kb,Kc,Ke,Kf,Kg,Kh,Ki,Kj,Kk,Kl,Km,Kn,Ko,Kp,Kq,Kr,Ks,Kt,Ku,Kv,Kw,Kx,Ky,Kz,K0,K1,K3,K4,K5,K6,K7,K8,K9,u375,u376,u377,u378,u379,u380,u381,u382,u383,u384,u385,u386,u387,u388,u389,u390,u391,u392,u393,u394,u395,u396,u397,u398,u399,u400,u401,u402,u403,u404,u405,u406,u407,P6,L8,L9,Ma,Mb,Mc,Md,Me,Mf,Mg,Mh,Mi,Mj,Mk,Ml,Mm,Mn,Mo,Mp,Mq,Mr,Ms,Mt,Mu,Mv,Mw,Mx,My,Mz,M0,M1,M2,M3,M4,M5,M6,M7,M8,M9,Na,Nb,Nc,Nd,Nf,Ng,Nh,Ni,Nj,Nk,Nl,Nm,Nn,No,Np,Nq,Nr,Ns,Nt,Nu,Nv,Nw,Nx,Ny,Nz,N0,N1,N2,N3,N4,N5,N6,N7,N8,N9,Oa,Ob,Oc,Od,Oe,Of,Og,Oh,Oi,Oj,Ok,Ol,Om,On,Oo,Op,Oq,Os,Ot,Ou,Ov,Ow,Ox,Oy,Oz,O0,O1,O2,O3,O4,O5,O6,O7,O8,O9,Pa,Pb,Pc,Pd,Pe,Pf,Pg,Ph,Pi,Pj,Pk,Pl,Pm,Pn,Po],[]⟩ w') :
    Code.wp Try.prog (regOf Try.f7 47) (Exit.then K' Q') ⟨#[Aa,Ab,Ac,Ad,Ae,Af,Ag,Ah,Ai,Aj,Ak,Al,Am,An,Ao,Ap,Aq,Ar,As,At,Au,Av,Aw,Ax,Ay,Az,A0,A3,A4,A5,A6,A7,A8,A9,Ba,Bb,Bc,Bd,Be,Bf,Bg,Bh,Bi,Bj,Bk,Bl,Bm,Bn,.int .i64 ct,.bool q1,.int .i64 ct,.bool q1,.slice AF fi.length cF,.bool q2,.slice AG fi.length cG,.bool q2,.int .i64 nu,.int .i64 de,.bool q3,.int .i64 nu,.int .i64 de,.bool q3,B2,B3,B4,B5,B6,B7,B8,B9,Ca,Cb,Cc,Cd,Ce,Cf,Cg,Ch,Ci,Cj,Ck,Cl,Cm,Cn,Co,Cp,Cq,Cr,Cs,Ct,Cu,Cv,Cw,Cx,Cy,Cz,C0,C1,C2,C7,C8,C9,Da,Db,Dc,Dd,De,Df,Dg,Dh,Di,Dj,Dk,Dl,Dm,Dn,Do,Dp,Dq,Dr,Ds,Dt,Du,Dv,Dw,Dx,Dy,Dz,D0,D1,D2,D3,D4,D5,D6,D7,D8,D9,Ea,Eb,Ec,Ed,Ee,Ef,Eg,Eh,Ei,Ej,Ek,El,Em,En,Eo,Ep,Er,Es,Et,Eu,Ev,Ew,Ex,Ey,Ez,E0,E1,E4,E5,E6,E7,E8,E9,Fa,Fb,Fc,Fd,Fe,Ff,Fg,Fh,Fi,Fj,Fk,Fl,Fm,Fn,Fo,Fp,Fq,Fr,Fs,Ft,Fu,Fv,Fw,Fx,Fy,Fz,F0,F1,F2,F3,F4,F5,F6,F7,F8,F9,Ga,Gb,Gc,Gd,Ge,Gf,Gg,Gh,Gi,Gj,Gk,Gl,Gm,Gn,Gp,Gq,Gr,Gs,Gt,Gu,Gv,Gw,Gx,Gy,Gz,G0,G8,G9,Ha,Hb,Hc,Hd,He,Hf,Hg,Hh,Hi,Hj,Hk,Hl,Hm,Hn,Ho,Hp,Hq,Hr,Hs,Ht,Hu,Hv,Hw,Hx,Hy,Hz,H1,H2,H3,H4,H5,H6,H7,H8,H9,Ia,Ib,Ic,Ie,If,Ig,Ih,Ii,Ij,Ik,Il,Im,In,Io,Ip,Iq,Ir,Is,It,Iu,Iv,Iw,Ix,Iy,Iz,I0,I1,I2,I3,I4,I5,I6,I7,I8,I9,Ja,Jb,Jc,Jd,Je,Jf,Jg,Jh,Ji,Jj,Jk,Jl,Jm,Jn,Jo,Jp,Jq,Jr,Js,Jt,Ju,Jv,Jw,Jx,Jy,Jz,J0,J1,J2,J3,J4,J5,J6,J7,J8,J9,Ka,Kb,Kc,Ke,Kf,Kg,Kh,Ki,Kj,Kk,Kl,Km,Kn,Ko,Kp,Kq,Kr,Ks,Kt,Ku,Kv,Kw,Kx,Ky,Kz,K0,K1,K3,K4,K5,K6,K7,K8,K9,La,Lb,Lc,Ld,Le,Lf,Lg,Lh,Li,Lj,Lk,Ll,Lm,Ln,Lo,Lp,Lq,Lr,Ls,Lt,Lu,Lv,Lw,Lx,Ly,Lz,L0,L1,L2,L3,L4,L5,L6,L7,L8,L9,Ma,Mb,Mc,Md,Me,Mf,Mg,Mh,Mi,Mj,Mk,Ml,Mm,Mn,Mo,Mp,Mq,Mr,Ms,Mt,Mu,Mv,Mw,Mx,My,Mz,M0,M1,M2,M3,M4,M5,M6,M7,M8,M9,Na,Nb,Nc,Nd,Nf,Ng,Nh,Ni,Nj,Nk,Nl,Nm,Nn,No,Np,Nq,Nr,Ns,Nt,Nu,Nv,Nw,Nx,Ny,Nz,N0,N1,N2,N3,N4,N5,N6,N7,N8,N9,Oa,Ob,Oc,Od,Oe,Of,Og,Oh,Oi,Oj,Ok,Ol,Om,On,Oo,Op,Oq,Os,Ot,Ou,Ov,Ow,Ox,Oy,Oz,O0,O1,O2,O3,O4,O5,O6,O7,O8,O9,Pa,Pb,Pc,Pd,Pe,Pf,Pg,Ph,Pi,Pj,Pk,Pl,Pm,Pn,Po],[]⟩ wr := by
  conv => arg 2; whnf
  have HKK := Aside0.mk hK
  clear hK
  cases q1 <;> cases q2 <;> cases q3 <;> (go_wp2_with (go_at_call 29; with_reducible refine (S1.out _ (by repeat first|(with_reducible first|exact HB.out|apply below_alloc|apply pw_below_drewN|apply below_drew1)|exact HB.out)).mono ?_; rintro e w1 ⟨rfl,⟨nd1,rfl⟩⟩; try dsimp only); exact HKK.out rfl ⟨(by repeat first|(with_reducible first|exact HB.out|apply below_alloc|apply pw_below_drewN|apply below_drew1)|exact HB.out)⟩)
theorem partN (m lf bh ct : Int) (wb : World) {Aa Ae Af Ag Ah Ai Aj Ak Al Am An Ao Ap Aq Ar As At Au Av Aw Ax Ay Az A0 A3 A4 A5 A6 A7 A8 A9 Ba Bb Bc Bd Be Bf Bg Bh Bi Bj Bk Bl Bm Bn Bp Bq Br Bs Bt Bu Bv Bw Bx By Bz B0 B1 B2 B3 B4 B5 B6 B7 B8 B9 Ca Cb Cc Cd Ce Cf Cg Ch Ci Cj Ck Cl Cm Cn Co Cp Cq Cr Cs Ct Cu Cv Cw Cx Cy Cz C0 C1 C2 C7 C8 C9 Da Db Dc Dd De Df Dg Dh Di Dj Dk Dl Dm Dn Do Dp Dq Dr Ds Dt Du Dv Dw Dx Dy Dz D0 D1 D2 D3 D4 D5 D6 D7 D8 D9 Ea Eb Ec Ed Ee Ef Eg Eh Ei Ej Ek El Em En Eo Ep Er Es Et Eu Ev Ew Ex Ey Ez E0 E1 E4 E5 E6 E7 E8 E9 Fa Fb Fc Fd Fe Ff Fg Fh Fi Fj Fk Fl Fm Fn Fo Fp Fq Fr Fs Ft Fu Fv Fw Fx Fy Fz F0 F1 F2 F3 F4 F5 F6 F7 F8 F9 Ga Gb Gc Gd Ge Gf Gg Gh Gi Gj Gk Gl Gm Gn Gp Gq Gr Gs Gt Gu Gv Gw Gx Gy Gz G0 G8 G9 Ha Hb Hc Hd He Hf Hg Hh Hi Hj Hk Hl Hm Hn Ho Hp Hq Hr Hs Ht Hu Hv Hw Hx Hy Hz H1 H2 H3 H4 H5 H6 H7 H8 H9 Ia Ib Ic Ie If Ig Ih Ii Ij Ik Il Im In Io Ip Iq Ir Is It Iu Iv Iw Ix Iy Iz I0 I1 I2 I3 I4 I5 I6 I7 I8 I9 Ja Jb Jc Jd Je Jf Jg Jh Ji Jj Jk Jl Jm Jn Jo Jp Jq Jr Js Jt Ju Jv Jw Jx Jy Jz J0 J1 J2 J3 J4 J5 J6 J7 J8 J9 Ka Kb Kc Ke Kf Kg Kh Ki Kj Kk Kl Km Kn Ko Kp Kq Kr Ks Kt Ku Kv Kw Kx Ky Kz K0 K1 K3 K4 K5 K6 K7 K8 K9 La Lb Lc Ld Le Lf Lg Lh Li Lj Lk Ll Lm Ln Lo Lp Lq Lr Ls Lt Lu Lv Lw Lx Ly Lz L0 L1 L2 L3 L4 L5 L6 L7 L9 Ma Mb Mc Md Me Mf Mg Mh Mi Mj Mk Ml Mm Mn Mo Mp Mq Mr Ms Mt Mu Mv Mw Mx My Mz M0 M1 M2 M3 M4 M5 M6 M7 M8 M9 Na Nb Nc Nd Nf Ng Nh Ni Nj Nk Nl Nm Nn No Np Nq Nr Ns Nt Nu Nv Nw Nx Ny Nz N0 N1 N2 N3 N4 N5 N6 N7 N8 N9 Oa Ob Oc Od Oe Of Og Oh Oi Oj Ok Ol Om On Oo Op Oq Os Ot Ou Ov Ow Ox Oy Oz O0 O1 O2 O3 O4 O5 O6 O7 O8 O9 Pa Pb Pc Pd Pe Pf Pg Ph Pi Pj Pk Pl Pm Pn Po : Value} (wr : World)
    (HB : Aside0 (Below wb.heap.size wb wr))
    (C3 : Aside0 (∀ W,Below wb.heap.size wb W → Calls Try.prog 9 #[.int .i64 m,.int .i64 bh,.int .i64 lf] W fun e w' => e = .returned (.tuple #[.int .i64 ct,.bool true]) ∧ Drawn0 W w'))
    (Q' : Exit → Act → World → Prop) (K' : Act → World → Prop)
    (hK : ∀ ⦃Pp Pq Pr P7 P8 P9 Qb Qc Qd Qe Qf Qg Qh Qi Qj Qk Ql : Value⦄ ⦃w' : World⦄,Aside0 (Below wb.heap.size wb w') → K' ⟨#[Aa,.int .i64 m,.int .i64 lf,.int .i64 bh,Ae,Af,Ag,Ah,Ai,Aj,Ak,Al,Am,An,Ao,Ap,Pp,Ar,As,At,Au,Av,Aw,Ax,Ay,Az,A0,A3,A4,A5,A6,A7,A8,A9,Ba,Bb,Bc,Bd,Be,Bf,Bg,Bh,Bi,Bj,Bk,Bl,Bm,Bn,.int .i64 ct,Bp,Bq,Br,Bs,Bt,Bu,Bv,Bw,Bx,By,Bz,B0,B1,Pq,Pr,B4,B5,B6,B7,B8,B9,Ca,Cb,Cc,Cd,Ce,Cf,Cg,Ch,Ci,Cj,Ck,Cl,Cm,Cn,Co,Cp,Cq,Cr,Cs,Ct,Cu,Cv,Cw,Cx,Cy,Cz,C0,C1,C2,C7,C8,C9,Da,Db,Dc,Dd,De,Df,Dg,Dh,Di,Dj,Dk,Dl,Dm,Dn,Do,Dp,Dq,Dr,Ds,Dt,Du,Dv,Dw,Dx,Dy,Dz,D0,D1,D2,D3,D4,D5,D6,D7,D8,D9,Ea,Eb,Ec,Ed,Ee,Ef,Eg,Eh,Ei,Ej,Ek,El,Em,En,Eo,Ep,Er,Es,Et,Eu,Ev,Ew,Ex,Ey,Ez,E0,E1,E4,E5,E6,E7,E8,E9,Fa,Fb,Fc,Fd,Fe,Ff,Fg,Fh,Fi,Fj,Fk,Fl,Fm,Fn,Fo,Fp,Fq,Fr,Fs,Ft,Fu,Fv,Fw,Fx,Fy,Fz,F0,F1,F2,F3,F4,F5,F6,F7,F8,F9,Ga,Gb,Gc,Gd,Ge,Gf,Gg,Gh,Gi,Gj,Gk,Gl,Gm,Gn,Gp,Gq,Gr,Gs,Gt,Gu,Gv,Gw,Gx,Gy,Gz,G0,G8,G9,Ha,Hb,Hc,Hd,He,Hf,Hg,Hh,Hi,Hj,Hk,Hl,Hm,Hn,Ho,Hp,Hq,Hr,Hs,Ht,Hu,Hv,Hw,Hx,Hy,Hz,H1,H2,H3,H4,H5,H6,H7,H8,H9,Ia,Ib,Ic,Ie,If,Ig,Ih,Ii,Ij,Ik,Il,Im,In,Io,Ip,Iq,Ir,Is,It,Iu,Iv,Iw,Ix,Iy,Iz,I0,I1,I2,I3,I4,I5,I6,I7,I8,I9,Ja,Jb,Jc,Jd,Je,Jf,Jg,Jh,Ji,Jj,Jk,Jl,Jm,Jn,Jo,Jp,Jq,Jr,Js,Jt,Ju,Jv,Jw,Jx,Jy,Jz,J0,J1,J2,J3,J4,J5,J6,J7,J8,J9,Ka,Kb,Kc,Ke,Kf,Kg,Kh,Ki,Kj,Kk,Kl,Km,Kn,Ko,Kp,Kq,Kr,Ks,Kt,Ku,Kv,Kw,Kx,Ky,Kz,K0,K1,K3,K4,K5,K6,K7,K8,K9,La,Lb,Lc,Ld,Le,Lf,Lg,Lh,Li,Lj,Lk,Ll,Lm,Ln,Lo,Lp,Lq,Lr,Ls,Lt,Lu,Lv,Lw,Lx,Ly,Lz,L0,L1,L2,L3,L4,L5,L6,L7,.bool true,P7,P8,P9,Qb,Qc,Qd,Qe,Qf,Qg,Qh,Qi,Qj,Qk,Ql,Mn,Mo,Mp,Mq,Mr,Ms,Mt,Mu,Mv,Mw,Mx,My,Mz,M0,M1,M2,M3,M4,M5,M6,M7,M8,M9,Na,Nb,Nc,Nd,Nf,Ng,Nh,Ni,Nj,Nk,Nl,Nm,Nn,No,Np,Nq,Nr,Ns,Nt,Nu,Nv,Nw,Nx,Ny,Nz,N0,N1,N2,N3,N4,N5,N6,N7,N8,N9,Oa,Ob,Oc,Od,Oe,Of,Og,Oh,Oi,Oj,Ok,Ol,Om,On,Oo,Op,Oq,Os,Ot,Ou,Ov,Ow,Ox,Oy,Oz,O0,O1,O2,O3,O4,O5,O6,O7,O8,O9,Pa,Pb,Pc,Pd,Pe,Pf,Pg,Ph,Pi,Pj,Pk,Pl,Pm,Pn,Po],[]⟩ w') :
    Code.wp Try.prog (condOf Try.f7 409) (Exit.then K' Q') ⟨#[Aa,.int .i64 m,.int .i64 lf,.int .i64 bh,Ae,Af,Ag,Ah,Ai,Aj,Ak,Al,Am,An,Ao,Ap,Aq,Ar,As,At,Au,Av,Aw,Ax,Ay,Az,A0,A3,A4,A5,A6,A7,A8,A9,Ba,Bb,Bc,Bd,Be,Bf,Bg,Bh,Bi,Bj,Bk,Bl,Bm,Bn,.int .i64 ct,Bp,Bq,Br,Bs,Bt,Bu,Bv,Bw,Bx,By,Bz,B0,B1,B2,B3,B4,B5,B6,B7,B8,B9,Ca,Cb,Cc,Cd,Ce,Cf,Cg,Ch,Ci,Cj,Ck,Cl,Cm,Cn,Co,Cp,Cq,Cr,Cs,Ct,Cu,Cv,Cw,Cx,Cy,Cz,C0,C1,C2,C7,C8,C9,Da,Db,Dc,Dd,De,Df,Dg,Dh,Di,Dj,Dk,Dl,Dm,Dn,Do,Dp,Dq,Dr,Ds,Dt,Du,Dv,Dw,Dx,Dy,Dz,D0,D1,D2,D3,D4,D5,D6,D7,D8,D9,Ea,Eb,Ec,Ed,Ee,Ef,Eg,Eh,Ei,Ej,Ek,El,Em,En,Eo,Ep,Er,Es,Et,Eu,Ev,Ew,Ex,Ey,Ez,E0,E1,E4,E5,E6,E7,E8,E9,Fa,Fb,Fc,Fd,Fe,Ff,Fg,Fh,Fi,Fj,Fk,Fl,Fm,Fn,Fo,Fp,Fq,Fr,Fs,Ft,Fu,Fv,Fw,Fx,Fy,Fz,F0,F1,F2,F3,F4,F5,F6,F7,F8,F9,Ga,Gb,Gc,Gd,Ge,Gf,Gg,Gh,Gi,Gj,Gk,Gl,Gm,Gn,Gp,Gq,Gr,Gs,Gt,Gu,Gv,Gw,Gx,Gy,Gz,G0,G8,G9,Ha,Hb,Hc,Hd,He,Hf,Hg,Hh,Hi,Hj,Hk,Hl,Hm,Hn,Ho,Hp,Hq,Hr,Hs,Ht,Hu,Hv,Hw,Hx,Hy,Hz,H1,H2,H3,H4,H5,H6,H7,H8,H9,Ia,Ib,Ic,Ie,If,Ig,Ih,Ii,Ij,Ik,Il,Im,In,Io,Ip,Iq,Ir,Is,It,Iu,Iv,Iw,Ix,Iy,Iz,I0,I1,I2,I3,I4,I5,I6,I7,I8,I9,Ja,Jb,Jc,Jd,Je,Jf,Jg,Jh,Ji,Jj,Jk,Jl,Jm,Jn,Jo,Jp,Jq,Jr,Js,Jt,Ju,Jv,Jw,Jx,Jy,Jz,J0,J1,J2,J3,J4,J5,J6,J7,J8,J9,Ka,Kb,Kc,Ke,Kf,Kg,Kh,Ki,Kj,Kk,Kl,Km,Kn,Ko,Kp,Kq,Kr,Ks,Kt,Ku,Kv,Kw,Kx,Ky,Kz,K0,K1,K3,K4,K5,K6,K7,K8,K9,La,Lb,Lc,Ld,Le,Lf,Lg,Lh,Li,Lj,Lk,Ll,Lm,Ln,Lo,Lp,Lq,Lr,Ls,Lt,Lu,Lv,Lw,Lx,Ly,Lz,L0,L1,L2,L3,L4,L5,L6,L7,.bool true,L9,Ma,Mb,Mc,Md,Me,Mf,Mg,Mh,Mi,Mj,Mk,Ml,Mm,Mn,Mo,Mp,Mq,Mr,Ms,Mt,Mu,Mv,Mw,Mx,My,Mz,M0,M1,M2,M3,M4,M5,M6,M7,M8,M9,Na,Nb,Nc,Nd,Nf,Ng,Nh,Ni,Nj,Nk,Nl,Nm,Nn,No,Np,Nq,Nr,Ns,Nt,Nu,Nv,Nw,Nx,Ny,Nz,N0,N1,N2,N3,N4,N5,N6,N7,N8,N9,Oa,Ob,Oc,Od,Oe,Of,Og,Oh,Oi,Oj,Ok,Ol,Om,On,Oo,Op,Oq,Os,Ot,Ou,Ov,Ow,Ox,Oy,Oz,O0,O1,O2,O3,O4,O5,O6,O7,O8,O9,Pa,Pb,Pc,Pd,Pe,Pf,Pg,Ph,Pi,Pj,Pk,Pl,Pm,Pn,Po],[]⟩ wr := by
  conv => arg 2; whnf
  have HKK := Aside0.mk hK
  clear hK
  go_wp2_with (go_at_call 9; with_reducible refine (C3.out _ (by repeat first|(with_reducible first|exact HB.out|apply below_alloc|apply pw_below_drewN|apply below_drew1)|exact HB.out)).mono ?_; rintro e w1 ⟨rfl,⟨nd1,rfl⟩⟩; try dsimp only)
  exact HKK.out ⟨(by repeat first|(with_reducible first|exact HB.out|apply below_alloc|apply pw_below_drewN|apply below_drew1)|exact HB.out)⟩
theorem partN_no (wb : World) {Aa Ab Ac Ad Ae Af Ag Ah Ai Aj Ak Al Am An Ao Ap Aq Ar As At Au Av Aw Ax Ay Az A0 A3 A4 A5 A6 A7 A8 A9 Ba Bb Bc Bd Be Bf Bg Bh Bi Bj Bk Bl Bm Bn Bo Bp Bq Br Bs Bt Bu Bv Bw Bx By Bz B0 B1 B2 B3 B4 B5 B6 B7 B8 B9 Ca Cb Cc Cd Ce Cf Cg Ch Ci Cj Ck Cl Cm Cn Co Cp Cq Cr Cs Ct Cu Cv Cw Cx Cy Cz C0 C1 C2 C7 C8 C9 Da Db Dc Dd De Df Dg Dh Di Dj Dk Dl Dm Dn Do Dp Dq Dr Ds Dt Du Dv Dw Dx Dy Dz D0 D1 D2 D3 D4 D5 D6 D7 D8 D9 Ea Eb Ec Ed Ee Ef Eg Eh Ei Ej Ek El Em En Eo Ep Er Es Et Eu Ev Ew Ex Ey Ez E0 E1 E4 E5 E6 E7 E8 E9 Fa Fb Fc Fd Fe Ff Fg Fh Fi Fj Fk Fl Fm Fn Fo Fp Fq Fr Fs Ft Fu Fv Fw Fx Fy Fz F0 F1 F2 F3 F4 F5 F6 F7 F8 F9 Ga Gb Gc Gd Ge Gf Gg Gh Gi Gj Gk Gl Gm Gn Gp Gq Gr Gs Gt Gu Gv Gw Gx Gy Gz G0 G8 G9 Ha Hb Hc Hd He Hf Hg Hh Hi Hj Hk Hl Hm Hn Ho Hp Hq Hr Hs Ht Hu Hv Hw Hx Hy Hz H1 H2 H3 H4 H5 H6 H7 H8 H9 Ia Ib Ic Ie If Ig Ih Ii Ij Ik Il Im In Io Ip Iq Ir Is It Iu Iv Iw Ix Iy Iz I0 I1 I2 I3 I4 I5 I6 I7 I8 I9 Ja Jb Jc Jd Je Jf Jg Jh Ji Jj Jk Jl Jm Jn Jo Jp Jq Jr Js Jt Ju Jv Jw Jx Jy Jz J0 J1 J2 J3 J4 J5 J6 J7 J8 J9 Ka Kb Kc Ke Kf Kg Kh Ki Kj Kk Kl Km Kn Ko Kp Kq Kr Ks Kt Ku Kv Kw Kx Ky Kz K0 K1 K3 K4 K5 K6 K7 K8 K9 La Lb Lc Ld Le Lf Lg Lh Li Lj Lk Ll Lm Ln Lo Lp Lq Lr Ls Lt Lu Lv Lw Lx Ly Lz L0 L1 L2 L3 L4 L5 L6 L7 L9 Ma Mb Mc Md Me Mf Mg Mh Mi Mj Mk Ml Mm Mn Mo Mp Mq Mr Ms Mt Mu Mv Mw Mx My Mz M0 M1 M2 M3 M4 M5 M6 M7 M8 M9 Na Nb Nc Nd Nf Ng Nh Ni Nj Nk Nl Nm Nn No Np Nq Nr Ns Nt Nu Nv Nw Nx Ny Nz N0 N1 N2 N3 N4 N5 N6 N7 N8 N9 Oa Ob Oc Od Oe Of Og Oh Oi Oj Ok Ol Om On Oo Op Oq Os Ot Ou Ov Ow Ox Oy Oz O0 O1 O2 O3 O4 O5 O6 O7 O8 O9 Pa Pb Pc Pd Pe Pf Pg Ph Pi Pj Pk Pl Pm Pn Po : Value} (wr : World)
    (HB : Aside0 (Below wb.heap.size wb wr))
    (Q' : Exit → Act → World → Prop) (K' : Act → World → Prop)
    (hK : ∀ ⦃Pp Pq Pr P7 P8 P9 Qb Qc Qd Qe Qf Qg Qh Qi Qj Qk Ql : Value⦄ ⦃w' : World⦄,Aside0 (Below wb.heap.size wb w') → K' ⟨#[Aa,Ab,Ac,Ad,Ae,Af,Ag,Ah,Ai,Aj,Ak,Al,Am,An,Ao,Ap,Pp,Ar,As,At,Au,Av,Aw,Ax,Ay,Az,A0,A3,A4,A5,A6,A7,A8,A9,Ba,Bb,Bc,Bd,Be,Bf,Bg,Bh,Bi,Bj,Bk,Bl,Bm,Bn,Bo,Bp,Bq,Br,Bs,Bt,Bu,Bv,Bw,Bx,By,Bz,B0,B1,Pq,Pr,B4,B5,B6,B7,B8,B9,Ca,Cb,Cc,Cd,Ce,Cf,Cg,Ch,Ci,Cj,Ck,Cl,Cm,Cn,Co,Cp,Cq,Cr,Cs,Ct,Cu,Cv,Cw,Cx,Cy,Cz,C0,C1,C2,C7,C8,C9,Da,Db,Dc,Dd,De,Df,Dg,Dh,Di,Dj,Dk,Dl,Dm,Dn,Do,Dp,Dq,Dr,Ds,Dt,Du,Dv,Dw,Dx,Dy,Dz,D0,D1,D2,D3,D4,D5,D6,D7,D8,D9,Ea,Eb,Ec,Ed,Ee,Ef,Eg,Eh,Ei,Ej,Ek,El,Em,En,Eo,Ep,Er,Es,Et,Eu,Ev,Ew,Ex,Ey,Ez,E0,E1,E4,E5,E6,E7,E8,E9,Fa,Fb,Fc,Fd,Fe,Ff,Fg,Fh,Fi,Fj,Fk,Fl,Fm,Fn,Fo,Fp,Fq,Fr,Fs,Ft,Fu,Fv,Fw,Fx,Fy,Fz,F0,F1,F2,F3,F4,F5,F6,F7,F8,F9,Ga,Gb,Gc,Gd,Ge,Gf,Gg,Gh,Gi,Gj,Gk,Gl,Gm,Gn,Gp,Gq,Gr,Gs,Gt,Gu,Gv,Gw,Gx,Gy,Gz,G0,G8,G9,Ha,Hb,Hc,Hd,He,Hf,Hg,Hh,Hi,Hj,Hk,Hl,Hm,Hn,Ho,Hp,Hq,Hr,Hs,Ht,Hu,Hv,Hw,Hx,Hy,Hz,H1,H2,H3,H4,H5,H6,H7,H8,H9,Ia,Ib,Ic,Ie,If,Ig,Ih,Ii,Ij,Ik,Il,Im,In,Io,Ip,Iq,Ir,Is,It,Iu,Iv,Iw,Ix,Iy,Iz,I0,I1,I2,I3,I4,I5,I6,I7,I8,I9,Ja,Jb,Jc,Jd,Je,Jf,Jg,Jh,Ji,Jj,Jk,Jl,Jm,Jn,Jo,Jp,Jq,Jr,Js,Jt,Ju,Jv,Jw,Jx,Jy,Jz,J0,J1,J2,J3,J4,J5,J6,J7,J8,J9,Ka,Kb,Kc,Ke,Kf,Kg,Kh,Ki,Kj,Kk,Kl,Km,Kn,Ko,Kp,Kq,Kr,Ks,Kt,Ku,Kv,Kw,Kx,Ky,Kz,K0,K1,K3,K4,K5,K6,K7,K8,K9,La,Lb,Lc,Ld,Le,Lf,Lg,Lh,Li,Lj,Lk,Ll,Lm,Ln,Lo,Lp,Lq,Lr,Ls,Lt,Lu,Lv,Lw,Lx,Ly,Lz,L0,L1,L2,L3,L4,L5,L6,L7,.bool false,P7,P8,P9,Qb,Qc,Qd,Qe,Qf,Qg,Qh,Qi,Qj,Qk,Ql,Mn,Mo,Mp,Mq,Mr,Ms,Mt,Mu,Mv,Mw,Mx,My,Mz,M0,M1,M2,M3,M4,M5,M6,M7,M8,M9,Na,Nb,Nc,Nd,Nf,Ng,Nh,Ni,Nj,Nk,Nl,Nm,Nn,No,Np,Nq,Nr,Ns,Nt,Nu,Nv,Nw,Nx,Ny,Nz,N0,N1,N2,N3,N4,N5,N6,N7,N8,N9,Oa,Ob,Oc,Od,Oe,Of,Og,Oh,Oi,Oj,Ok,Ol,Om,On,Oo,Op,Oq,Os,Ot,Ou,Ov,Ow,Ox,Oy,Oz,O0,O1,O2,O3,O4,O5,O6,O7,O8,O9,Pa,Pb,Pc,Pd,Pe,Pf,Pg,Ph,Pi,Pj,Pk,Pl,Pm,Pn,Po],[]⟩ w') :
    Code.wp Try.prog (condOf Try.f7 409) (Exit.then K' Q') ⟨#[Aa,Ab,Ac,Ad,Ae,Af,Ag,Ah,Ai,Aj,Ak,Al,Am,An,Ao,Ap,Aq,Ar,As,At,Au,Av,Aw,Ax,Ay,Az,A0,A3,A4,A5,A6,A7,A8,A9,Ba,Bb,Bc,Bd,Be,Bf,Bg,Bh,Bi,Bj,Bk,Bl,Bm,Bn,Bo,Bp,Bq,Br,Bs,Bt,Bu,Bv,Bw,Bx,By,Bz,B0,B1,B2,B3,B4,B5,B6,B7,B8,B9,Ca,Cb,Cc,Cd,Ce,Cf,Cg,Ch,Ci,Cj,Ck,Cl,Cm,Cn,Co,Cp,Cq,Cr,Cs,Ct,Cu,Cv,Cw,Cx,Cy,Cz,C0,C1,C2,C7,C8,C9,Da,Db,Dc,Dd,De,Df,Dg,Dh,Di,Dj,Dk,Dl,Dm,Dn,Do,Dp,Dq,Dr,Ds,Dt,Du,Dv,Dw,Dx,Dy,Dz,D0,D1,D2,D3,D4,D5,D6,D7,D8,D9,Ea,Eb,Ec,Ed,Ee,Ef,Eg,Eh,Ei,Ej,Ek,El,Em,En,Eo,Ep,Er,Es,Et,Eu,Ev,Ew,Ex,Ey,Ez,E0,E1,E4,E5,E6,E7,E8,E9,Fa,Fb,Fc,Fd,Fe,Ff,Fg,Fh,Fi,Fj,Fk,Fl,Fm,Fn,Fo,Fp,Fq,Fr,Fs,Ft,Fu,Fv,Fw,Fx,Fy,Fz,F0,F1,F2,F3,F4,F5,F6,F7,F8,F9,Ga,Gb,Gc,Gd,Ge,Gf,Gg,Gh,Gi,Gj,Gk,Gl,Gm,Gn,Gp,Gq,Gr,Gs,Gt,Gu,Gv,Gw,Gx,Gy,Gz,G0,G8,G9,Ha,Hb,Hc,Hd,He,Hf,Hg,Hh,Hi,Hj,Hk,Hl,Hm,Hn,Ho,Hp,Hq,Hr,Hs,Ht,Hu,Hv,Hw,Hx,Hy,Hz,H1,H2,H3,H4,H5,H6,H7,H8,H9,Ia,Ib,Ic,Ie,If,Ig,Ih,Ii,Ij,Ik,Il,Im,In,Io,Ip,Iq,Ir,Is,It,Iu,Iv,Iw,Ix,Iy,Iz,I0,I1,I2,I3,I4,I5,I6,I7,I8,I9,Ja,Jb,Jc,Jd,Je,Jf,Jg,Jh,Ji,Jj,Jk,Jl,Jm,Jn,Jo,Jp,Jq,Jr,Js,Jt,Ju,Jv,Jw,Jx,Jy,Jz,J0,J1,J2,J3,J4,J5,J6,J7,J8,J9,Ka,Kb,Kc,Ke,Kf,Kg,Kh,Ki,Kj,Kk,Kl,Km,Kn,Ko,Kp,Kq,Kr,Ks,Kt,Ku,Kv,Kw,Kx,Ky,Kz,K0,K1,K3,K4,K5,K6,K7,K8,K9,La,Lb,Lc,Ld,Le,Lf,Lg,Lh,Li,Lj,Lk,Ll,Lm,Ln,Lo,Lp,Lq,Lr,Ls,Lt,Lu,Lv,Lw,Lx,Ly,Lz,L0,L1,L2,L3,L4,L5,L6,L7,.bool false,L9,Ma,Mb,Mc,Md,Me,Mf,Mg,Mh,Mi,Mj,Mk,Ml,Mm,Mn,Mo,Mp,Mq,Mr,Ms,Mt,Mu,Mv,Mw,Mx,My,Mz,M0,M1,M2,M3,M4,M5,M6,M7,M8,M9,Na,Nb,Nc,Nd,Nf,Ng,Nh,Ni,Nj,Nk,Nl,Nm,Nn,No,Np,Nq,Nr,Ns,Nt,Nu,Nv,Nw,Nx,Ny,Nz,N0,N1,N2,N3,N4,N5,N6,N7,N8,N9,Oa,Ob,Oc,Od,Oe,Of,Og,Oh,Oi,Oj,Ok,Ol,Om,On,Oo,Op,Oq,Os,Ot,Ou,Ov,Ow,Ox,Oy,Oz,O0,O1,O2,O3,O4,O5,O6,O7,O8,O9,Pa,Pb,Pc,Pd,Pe,Pf,Pg,Ph,Pi,Pj,Pk,Pl,Pm,Pn,Po],[]⟩ wr := by
  conv => arg 2; whnf
  have HKK := Aside0.mk hK
  clear hK
  go_wp2_with fail
  exact HKK.out ⟨(by repeat first|(with_reducible first|exact HB.out|apply below_alloc|apply pw_below_drewN|apply below_drew1)|exact HB.out)⟩
theorem partE (fi sl sr : List Int) (mn : Int) (AF : Option Addr) (cF : Nat) (wb : World) {Aa Ab Ac Ad Ah Ai Aj Ak Al Am An Ao Ap Aq Ar As At Au Av Aw Ax Ay Az A0 A3 A4 A5 A6 A7 A8 A9 Ba Bb Bc Bd Be Bf Bg Bh Bi Bj Bk Bl Bm Bn Bo Bp Bq Br Bt Bu Bv Bw Bx By Bz B0 B1 B2 B3 B4 B5 B6 B7 B8 B9 Ca Cb Cc Cd Ce Cf Cg Ch Ci Cj Ck Cl Cm Cn Co Cp Cq Cr Cs Ct Cu Cv Cw Cx Cy Cz C0 C1 C2 C7 C8 C9 Da Db Dc Dd De Df Dg Dh Di Dj Dk Dl Dm Dn Do Dp Dq Dr Ds Dt Du Dv Dw Dx Dy Dz D0 D1 D2 D3 D4 D5 D6 D7 D8 D9 Ea Eb Ec Ed Ee Ef Eg Eh Ei Ej Ek El Em En Eo Ep Er Es Et Eu Ev Ew Ex Ey Ez E0 E1 E4 E5 E6 E7 E8 E9 Fa Fb Fc Fd Fe Ff Fg Fh Fi Fj Fk Fl Fm Fn Fo Fp Fq Fr Fs Ft Fu Fv Fw Fx Fy Fz F0 F1 F2 F3 F4 F5 F6 F7 F8 F9 Ga Gb Gc Gd Ge Gf Gg Gh Gi Gj Gk Gl Gm Gn Gp Gq Gr Gs Gt Gu Gv Gw Gx Gy Gz G0 G8 G9 Ha Hb Hc Hd He Hf Hg Hh Hi Hj Hk Hl Hm Hn Ho Hp Hq Hr Hs Ht Hu Hv Hw Hx Hy Hz H1 H2 H3 H4 H5 H6 H7 H8 H9 Ia Ib Ic Ie If Ig Ih Ii Ij Ik Il Im In Io Ip Iq Ir Is It Iu Iv Iw Ix Iy Iz I0 I1 I2 I3 I4 I5 I6 I7 I8 I9 Ja Jb Jc Jd Je Jf Jg Jh Ji Jj Jk Jl Jm Jn Jo Jp Jq Jr Js Jt Ju Jv Jw Jx Jy Jz J0 J1 J2 J3 J4 J5 J6 J7 J8 J9 Ka Kb Kc Ke Kf Kg Kh Ki Kj Kk Kl Km Kn Ko Kp Kq Kr Ks Kt Ku Kv Kw Kx Ky Kz K0 K1 K3 K4 K5 K6 K7 K8 K9 La Lb Lc Ld Le Lf Lg Lh Li Lj Lk Ll Lm Ln Lo Lp Lq Lr Ls Lt Lu Lv Lw Lx Ly Lz L0 L1 L2 L3 L4 L5 L6 L7 L8 L9 Ma Mb Mc Md Me Mf Mg Mh Mi Mj Mk Ml Mm Mo Mp Mq Mr Ms Mt Mu Mv Mw Mx My Mz M0 M1 M2 M3 M4 M5 M6 M7 M8 M9 Na Nb Nc Nd Nf Ng Nh Ni Nj Nk Nl Nm Nn No Np Nq Nr Ns Nt Nu Nv Nw Nx Ny Nz N0 N1 N2 N3 N4 N5 N6 N7 N8 N9 Oa Ob Oc Od Oe Of Og Oh Oi Oj Ok Ol Om On Oo Op Oq Os Ot Ou Ov Ow Ox Oy Oz O0 O1 O2 O3 O4 O5 O6 O7 O8 O9 Pa Pb Pc Pd Pe Pf Pg Ph Pi Pj Pk Pl Pm Pn Po : Value} (wr : World)
    (HB : Aside0 (Below wb.heap.size wb wr))
    (hmn : 1 ≤ mn)
    (C4 : Aside0 (∀ W,Below wb.heap.size wb W → Calls Try.prog 21 #[.slice AF fi.length cF] W fun e w' => ∃ v,e = .returned (.tuple #[v,.bool true]) ∧ Kd.R (Kd.int .i64) 3 w' W.heap.size (fun _ => True) v sl ∧ Below W.heap.size W w')) (C5 : Aside0 (∀ W,Below wb.heap.size wb W → Calls Try.prog 22 #[.slice AF fi.length cF] W fun e w' => ∃ v,e = .returned (.tuple #[v,.bool true]) ∧ Kd.R (Kd.int .i64) 3 w' W.heap.size (fun _ => True) v sr ∧ Below W.heap.size W w'))
    (C6 : Aside0 (∀ W,Below wb.heap.size wb W → Calls Try.prog 9 #[.int .i64 (fi.length : Int),.int .i64 (sl.length : Int),.int .i64 (sr.length : Int)] W fun e w' => e = .returned (.tuple #[.int .i64 mn,.bool true]) ∧ Drawn0 W w'))
    (Q' : Exit → Act → World → Prop) (K' : Act → World → Prop)
    (hK : ∀ ⦃Pp Ps Pt Pu Pv Pw Px Qm Qn Qo Qp Qq Qr Qs Qt Qu Qv Qw Qx Qy Qz Q0 Q1 Q2 Q3 Q4 Q5 Q6 Q7 Q8 Q9 Ra Rb Rc Rd Re Rf Rg Rh Ri Rj Rk Rl Rm Rn Ro Rp Rq Rr Rs Rt Ru Rv Rw Rx Ry : Value⦄ ⦃w' : World⦄,Aside0 (Below wb.heap.size wb w') → K' ⟨#[Aa,Ab,Ac,Ad,.int .i64 (fi.length : Int),.int .i64 (sl.length : Int),.int .i64 (sr.length : Int),Ah,Ai,Aj,Ak,Al,Am,An,Ao,Ap,Pp,Ar,As,At,Au,Av,Aw,Ax,Ay,Az,A0,A3,A4,A5,A6,A7,A8,A9,Ba,Bb,Bc,Bd,Be,Bf,Bg,Bh,Bi,Bj,Bk,Bl,Bm,Bn,Bo,Bp,Bq,Br,.slice AF fi.length cF,Bt,Bu,Bv,Bw,Bx,By,Bz,B0,B1,B2,B3,Ps,Pt,Pu,Pv,Pw,Px,Ca,Cb,Cc,Cd,Ce,Cf,Cg,Ch,Ci,Cj,Ck,Cl,Cm,Cn,Co,Cp,Cq,Cr,Cs,Ct,Cu,Cv,Cw,Cx,Cy,Cz,C0,C1,C2,C7,C8,C9,Da,Db,Dc,Dd,De,Df,Dg,Dh,Di,Dj,Dk,Dl,Dm,Dn,Do,Dp,Dq,Dr,Ds,Dt,Du,Dv,Dw,Dx,Dy,Dz,D0,D1,D2,D3,D4,D5,D6,D7,D8,D9,Ea,Eb,Ec,Ed,Ee,Ef,Eg,Eh,Ei,Ej,Ek,El,Em,En,Eo,Ep,Er,Es,Et,Eu,Ev,Ew,Ex,Ey,Ez,E0,E1,E4,E5,E6,E7,E8,E9,Fa,Fb,Fc,Fd,Fe,Ff,Fg,Fh,Fi,Fj,Fk,Fl,Fm,Fn,Fo,Fp,Fq,Fr,Fs,Ft,Fu,Fv,Fw,Fx,Fy,Fz,F0,F1,F2,F3,F4,F5,F6,F7,F8,F9,Ga,Gb,Gc,Gd,Ge,Gf,Gg,Gh,Gi,Gj,Gk,Gl,Gm,Gn,Gp,Gq,Gr,Gs,Gt,Gu,Gv,Gw,Gx,Gy,Gz,G0,G8,G9,Ha,Hb,Hc,Hd,He,Hf,Hg,Hh,Hi,Hj,Hk,Hl,Hm,Hn,Ho,Hp,Hq,Hr,Hs,Ht,Hu,Hv,Hw,Hx,Hy,Hz,H1,H2,H3,H4,H5,H6,H7,H8,H9,Ia,Ib,Ic,Ie,If,Ig,Ih,Ii,Ij,Ik,Il,Im,In,Io,Ip,Iq,Ir,Is,It,Iu,Iv,Iw,Ix,Iy,Iz,I0,I1,I2,I3,I4,I5,I6,I7,I8,I9,Ja,Jb,Jc,Jd,Je,Jf,Jg,Jh,Ji,Jj,Jk,Jl,Jm,Jn,Jo,Jp,Jq,Jr,Js,Jt,Ju,Jv,Jw,Jx,Jy,Jz,J0,J1,J2,J3,J4,J5,J6,J7,J8,J9,Ka,Kb,Kc,Ke,Kf,Kg,Kh,Ki,Kj,Kk,Kl,Km,Kn,Ko,Kp,Kq,Kr,Ks,Kt,Ku,Kv,Kw,Kx,Ky,Kz,K0,K1,K3,K4,K5,K6,K7,K8,K9,La,Lb,Lc,Ld,Le,Lf,Lg,Lh,Li,Lj,Lk,Ll,Lm,Ln,Lo,Lp,Lq,Lr,Ls,Lt,Lu,Lv,Lw,Lx,Ly,Lz,L0,L1,L2,L3,L4,L5,L6,L7,L8,L9,Ma,Mb,Mc,Md,Me,Mf,Mg,Mh,Mi,Mj,Mk,Ml,Mm,.bool true,Qm,Qn,Qo,Qp,Qq,Qr,Qs,Qt,Qu,Qv,Qw,Qx,Qy,Qz,Q0,Q1,Q2,Q3,Q4,Q5,Q6,Q7,Q8,Q9,Ra,Rb,Rc,Rd,Re,Rf,Rg,Rh,Ri,Rj,Rk,Rl,Rm,Rn,Ro,Rp,Rq,Rr,Rs,Rt,Ru,Rv,Rw,Rx,Ry,N2,N3,N4,N5,N6,N7,N8,N9,Oa,Ob,Oc,Od,Oe,Of,Og,Oh,Oi,Oj,Ok,Ol,Om,On,Oo,Op,Oq,Os,Ot,Ou,Ov,Ow,Ox,Oy,Oz,O0,O1,O2,O3,O4,O5,O6,O7,O8,O9,Pa,Pb,Pc,Pd,Pe,Pf,Pg,Ph,Pi,Pj,Pk,Pl,Pm,Pn,Po],[]⟩ w') :
    Code.wp Try.prog (condOf Try.f7 424) (Exit.then K' Q') ⟨#[Aa,Ab,Ac,Ad,.int .i64 (fi.length : Int),.int .i64 (sl.length : Int),.int .i64 (sr.length : Int),Ah,Ai,Aj,Ak,Al,Am,An,Ao,Ap,Aq,Ar,As,At,Au,Av,Aw,Ax,Ay,Az,A0,A3,A4,A5,A6,A7,A8,A9,Ba,Bb,Bc,Bd,Be,Bf,Bg,Bh,Bi,Bj,Bk,Bl,Bm,Bn,Bo,Bp,Bq,Br,.slice AF fi.length cF,Bt,Bu,Bv,Bw,Bx,By,Bz,B0,B1,B2,B3,B4,B5,B6,B7,B8,B9,Ca,Cb,Cc,Cd,Ce,Cf,Cg,Ch,Ci,Cj,Ck,Cl,Cm,Cn,Co,Cp,Cq,Cr,Cs,Ct,Cu,Cv,Cw,Cx,Cy,Cz,C0,C1,C2,C7,C8,C9,Da,Db,Dc,Dd,De,Df,Dg,Dh,Di,Dj,Dk,Dl,Dm,Dn,Do,Dp,Dq,Dr,Ds,Dt,Du,Dv,Dw,Dx,Dy,Dz,D0,D1,D2,D3,D4,D5,D6,D7,D8,D9,Ea,Eb,Ec,Ed,Ee,Ef,Eg,Eh,Ei,Ej,Ek,El,Em,En,Eo,Ep,Er,Es,Et,Eu,Ev,Ew,Ex,Ey,Ez,E0,E1,E4,E5,E6,E7,E8,E9,Fa,Fb,Fc,Fd,Fe,Ff,Fg,Fh,Fi,Fj,Fk,Fl,Fm,Fn,Fo,Fp,Fq,Fr,Fs,Ft,Fu,Fv,Fw,Fx,Fy,Fz,F0,F1,F2,F3,F4,F5,F6,F7,F8,F9,Ga,Gb,Gc,Gd,Ge,Gf,Gg,Gh,Gi,Gj,Gk,Gl,Gm,Gn,Gp,Gq,Gr,Gs,Gt,Gu,Gv,Gw,Gx,Gy,Gz,G0,G8,G9,Ha,Hb,Hc,Hd,He,Hf,Hg,Hh,Hi,Hj,Hk,Hl,Hm,Hn,Ho,Hp,Hq,Hr,Hs,Ht,Hu,Hv,Hw,Hx,Hy,Hz,H1,H2,H3,H4,H5,H6,H7,H8,H9,Ia,Ib,Ic,Ie,If,Ig,Ih,Ii,Ij,Ik,Il,Im,In,Io,Ip,Iq,Ir,Is,It,Iu,Iv,Iw,Ix,Iy,Iz,I0,I1,I2,I3,I4,I5,I6,I7,I8,I9,Ja,Jb,Jc,Jd,Je,Jf,Jg,Jh,Ji,Jj,Jk,Jl,Jm,Jn,Jo,Jp,Jq,Jr,Js,Jt,Ju,Jv,Jw,Jx,Jy,Jz,J0,J1,J2,J3,J4,J5,J6,J7,J8,J9,Ka,Kb,Kc,Ke,Kf,Kg,Kh,Ki,Kj,Kk,Kl,Km,Kn,Ko,Kp,Kq,Kr,Ks,Kt,Ku,Kv,Kw,Kx,Ky,Kz,K0,K1,K3,K4,K5,K6,K7,K8,K9,La,Lb,Lc,Ld,Le,Lf,Lg,Lh,Li,Lj,Lk,Ll,Lm,Ln,Lo,Lp,Lq,Lr,Ls,Lt,Lu,Lv,Lw,Lx,Ly,Lz,L0,L1,L2,L3,L4,L5,L6,L7,L8,L9,Ma,Mb,Mc,Md,Me,Mf,Mg,Mh,Mi,Mj,Mk,Ml,Mm,.bool true,Mo,Mp,Mq,Mr,Ms,Mt,Mu,Mv,Mw,Mx,My,Mz,M0,M1,M2,M3,M4,M5,M6,M7,M8,M9,Na,Nb,Nc,Nd,Nf,Ng,Nh,Ni,Nj,Nk,Nl,Nm,Nn,No,Np,Nq,Nr,Ns,Nt,Nu,Nv,Nw,Nx,Ny,Nz,N0,N1,N2,N3,N4,N5,N6,N7,N8,N9,Oa,Ob,Oc,Od,Oe,Of,Og,Oh,Oi,Oj,Ok,Ol,Om,On,Oo,Op,Oq,Os,Ot,Ou,Ov,Ow,Ox,Oy,Oz,O0,O1,O2,O3,O4,O5,O6,O7,O8,O9,Pa,Pb,Pc,Pd,Pe,Pf,Pg,Ph,Pi,Pj,Pk,Pl,Pm,Pn,Po],[]⟩ wr := by
  conv => arg 2; whnf
  have HKK := Aside0.mk hK
  clear hK
  have d1 : decide (mn < 1) = false := by simp; omega
  clear hmn
  go_wp2_with fail
  refine (C4.out _ (by repeat first|(with_reducible first|exact HB.out|apply below_alloc|apply pw_below_drewN|apply below_drew1)|exact HB.out)).mono ?_
  rintro e wd1 ⟨vd1,rfl,ho,hb⟩
  obtain ⟨A1,k1,rfl,hlc,hC⟩ := Kd.R_reads ho
  have HBn := Aside0.mk (below_step (by repeat first|(with_reducible first|exact HB.out|apply below_alloc|apply pw_below_drewN|apply below_drew1)|exact HB.out) hb); clear hb HB; have HB := HBn; clear HBn; try dsimp only
  clear ho hlc hC
  go_wp2_with fail
  refine (C5.out _ (by repeat first|(with_reducible first|exact HB.out|apply below_alloc|apply pw_below_drewN|apply below_drew1)|exact HB.out)).mono ?_
  rintro e wd2 ⟨vd2,rfl,ho,hb⟩
  obtain ⟨A2,k2,rfl,hlc,hC⟩ := Kd.R_reads ho
  have HBn := Aside0.mk (below_step (by repeat first|(with_reducible first|exact HB.out|apply below_alloc|apply pw_below_drewN|apply below_drew1)|exact HB.out) hb); clear hb HB; have HB := HBn; clear HBn; try dsimp only
  clear ho hlc hC
  go_wp2_with (go_at_call 9; with_reducible refine (C6.out _ (by repeat first|(with_reducible first|exact HB.out|apply below_alloc|apply pw_below_drewN|apply below_drew1)|exact HB.out)).mono ?_; rintro e w3 ⟨rfl,⟨nd3,rfl⟩⟩; try dsimp only)
  exact HKK.out ⟨(by repeat first|(with_reducible first|exact HB.out|apply below_alloc|apply pw_below_drewN|apply below_drew1)|exact HB.out)⟩
theorem partE_no (wb : World) {Aa Ab Ac Ad Ae Af Ag Ah Ai Aj Ak Al Am An Ao Ap Aq Ar As At Au Av Aw Ax Ay Az A0 A3 A4 A5 A6 A7 A8 A9 Ba Bb Bc Bd Be Bf Bg Bh Bi Bj Bk Bl Bm Bn Bo Bp Bq Br Bs Bt Bu Bv Bw Bx By Bz B0 B1 B2 B3 B4 B5 B6 B7 B8 B9 Ca Cb Cc Cd Ce Cf Cg Ch Ci Cj Ck Cl Cm Cn Co Cp Cq Cr Cs Ct Cu Cv Cw Cx Cy Cz C0 C1 C2 C7 C8 C9 Da Db Dc Dd De Df Dg Dh Di Dj Dk Dl Dm Dn Do Dp Dq Dr Ds Dt Du Dv Dw Dx Dy Dz D0 D1 D2 D3 D4 D5 D6 D7 D8 D9 Ea Eb Ec Ed Ee Ef Eg Eh Ei Ej Ek El Em En Eo Ep Er Es Et Eu Ev Ew Ex Ey Ez E0 E1 E4 E5 E6 E7 E8 E9 Fa Fb Fc Fd Fe Ff Fg Fh Fi Fj Fk Fl Fm Fn Fo Fp Fq Fr Fs Ft Fu Fv Fw Fx Fy Fz F0 F1 F2 F3 F4 F5 F6 F7 F8 F9 Ga Gb Gc Gd Ge Gf Gg Gh Gi Gj Gk Gl Gm Gn Gp Gq Gr Gs Gt Gu Gv Gw Gx Gy Gz G0 G8 G9 Ha Hb Hc Hd He Hf Hg Hh Hi Hj Hk Hl Hm Hn Ho Hp Hq Hr Hs Ht Hu Hv Hw Hx Hy Hz H1 H2 H3 H4 H5 H6 H7 H8 H9 Ia Ib Ic Ie If Ig Ih Ii Ij Ik Il Im In Io Ip Iq Ir Is It Iu Iv Iw Ix Iy Iz I0 I1 I2 I3 I4 I5 I6 I7 I8 I9 Ja Jb Jc Jd Je Jf Jg Jh Ji Jj Jk Jl Jm Jn Jo Jp Jq Jr Js Jt Ju Jv Jw Jx Jy Jz J0 J1 J2 J3 J4 J5 J6 J7 J8 J9 Ka Kb Kc Ke Kf Kg Kh Ki Kj Kk Kl Km Kn Ko Kp Kq Kr Ks Kt Ku Kv Kw Kx Ky Kz K0 K1 K3 K4 K5 K6 K7 K8 K9 La Lb Lc Ld Le Lf Lg Lh Li Lj Lk Ll Lm Ln Lo Lp Lq Lr Ls Lt Lu Lv Lw Lx Ly Lz L0 L1 L2 L3 L4 L5 L6 L7 L8 L9 Ma Mb Mc Md Me Mf Mg Mh Mi Mj Mk Ml Mm Mo Mp Mq Mr Ms Mt Mu Mv Mw Mx My Mz M0 M1 M2 M3 M4 M5 M6 M7 M8 M9 Na Nb Nc Nd Nf Ng Nh Ni Nj Nk Nl Nm Nn No Np Nq Nr Ns Nt Nu Nv Nw Nx Ny Nz N0 N1 N2 N3 N4 N5 N6 N7 N8 N9 Oa Ob Oc Od Oe Of Og Oh Oi Oj Ok Ol Om On Oo Op Oq Os Ot Ou Ov Ow Ox Oy Oz O0 O1 O2 O3 O4 O5 O6 O7 O8 O9 Pa Pb Pc Pd Pe Pf Pg Ph Pi Pj Pk Pl Pm Pn Po : Value} (wr : World)
    (HB : Aside0 (Below wb.heap.size wb wr))
    (Q' : Exit → Act → World → Prop) (K' : Act → World → Prop)
    (hK : ∀ ⦃Pp Ps Pt Pu Pv Pw Px Qm Qn Qo Qp Qq Qr Qs Qt Qu Qv Qw Qx Qy Qz Q0 Q1 Q2 Q3 Q4 Q5 Q6 Q7 Q8 Q9 Ra Rb Rc Rd Re Rf Rg Rh Ri Rj Rk Rl Rm Rn Ro Rp Rq Rr Rs Rt Ru Rv Rw Rx Ry : Value⦄ ⦃w' : World⦄,Aside0 (Below wb.heap.size wb w') → K' ⟨#[Aa,Ab,Ac,Ad,Ae,Af,Ag,Ah,Ai,Aj,Ak,Al,Am,An,Ao,Ap,Pp,Ar,As,At,Au,Av,Aw,Ax,Ay,Az,A0,A3,A4,A5,A6,A7,A8,A9,Ba,Bb,Bc,Bd,Be,Bf,Bg,Bh,Bi,Bj,Bk,Bl,Bm,Bn,Bo,Bp,Bq,Br,Bs,Bt,Bu,Bv,Bw,Bx,By,Bz,B0,B1,B2,B3,Ps,Pt,Pu,Pv,Pw,Px,Ca,Cb,Cc,Cd,Ce,Cf,Cg,Ch,Ci,Cj,Ck,Cl,Cm,Cn,Co,Cp,Cq,Cr,Cs,Ct,Cu,Cv,Cw,Cx,Cy,Cz,C0,C1,C2,C7,C8,C9,Da,Db,Dc,Dd,De,Df,Dg,Dh,Di,Dj,Dk,Dl,Dm,Dn,Do,Dp,Dq,Dr,Ds,Dt,Du,Dv,Dw,Dx,Dy,Dz,D0,D1,D2,D3,D4,D5,D6,D7,D8,D9,Ea,Eb,Ec,Ed,Ee,Ef,Eg,Eh,Ei,Ej,Ek,El,Em,En,Eo,Ep,Er,Es,Et,Eu,Ev,Ew,Ex,Ey,Ez,E0,E1,E4,E5,E6,E7,E8,E9,Fa,Fb,Fc,Fd,Fe,Ff,Fg,Fh,Fi,Fj,Fk,Fl,Fm,Fn,Fo,Fp,Fq,Fr,Fs,Ft,Fu,Fv,Fw,Fx,Fy,Fz,F0,F1,F2,F3,F4,F5,F6,F7,F8,F9,Ga,Gb,Gc,Gd,Ge,Gf,Gg,Gh,Gi,Gj,Gk,Gl,Gm,Gn,Gp,Gq,Gr,Gs,Gt,Gu,Gv,Gw,Gx,Gy,Gz,G0,G8,G9,Ha,Hb,Hc,Hd,He,Hf,Hg,Hh,Hi,Hj,Hk,Hl,Hm,Hn,Ho,Hp,Hq,Hr,Hs,Ht,Hu,Hv,Hw,Hx,Hy,Hz,H1,H2,H3,H4,H5,H6,H7,H8,H9,Ia,Ib,Ic,Ie,If,Ig,Ih,Ii,Ij,Ik,Il,Im,In,Io,Ip,Iq,Ir,Is,It,Iu,Iv,Iw,Ix,Iy,Iz,I0,I1,I2,I3,I4,I5,I6,I7,I8,I9,Ja,Jb,Jc,Jd,Je,Jf,Jg,Jh,Ji,Jj,Jk,Jl,Jm,Jn,Jo,Jp,Jq,Jr,Js,Jt,Ju,Jv,Jw,Jx,Jy,Jz,J0,J1,J2,J3,J4,J5,J6,J7,J8,J9,Ka,Kb,Kc,Ke,Kf,Kg,Kh,Ki,Kj,Kk,Kl,Km,Kn,Ko,Kp,Kq,Kr,Ks,Kt,Ku,Kv,Kw,Kx,Ky,Kz,K0,K1,K3,K4,K5,K6,K7,K8,K9,La,Lb,Lc,Ld,Le,Lf,Lg,Lh,Li,Lj,Lk,Ll,Lm,Ln,Lo,Lp,Lq,Lr,Ls,Lt,Lu,Lv,Lw,Lx,Ly,Lz,L0,L1,L2,L3,L4,L5,L6,L7,L8,L9,Ma,Mb,Mc,Md,Me,Mf,Mg,Mh,Mi,Mj,Mk,Ml,Mm,.bool false,Qm,Qn,Qo,Qp,Qq,Qr,Qs,Qt,Qu,Qv,Qw,Qx,Qy,Qz,Q0,Q1,Q2,Q3,Q4,Q5,Q6,Q7,Q8,Q9,Ra,Rb,Rc,Rd,Re,Rf,Rg,Rh,Ri,Rj,Rk,Rl,Rm,Rn,Ro,Rp,Rq,Rr,Rs,Rt,Ru,Rv,Rw,Rx,Ry,N2,N3,N4,N5,N6,N7,N8,N9,Oa,Ob,Oc,Od,Oe,Of,Og,Oh,Oi,Oj,Ok,Ol,Om,On,Oo,Op,Oq,Os,Ot,Ou,Ov,Ow,Ox,Oy,Oz,O0,O1,O2,O3,O4,O5,O6,O7,O8,O9,Pa,Pb,Pc,Pd,Pe,Pf,Pg,Ph,Pi,Pj,Pk,Pl,Pm,Pn,Po],[]⟩ w') :
    Code.wp Try.prog (condOf Try.f7 424) (Exit.then K' Q') ⟨#[Aa,Ab,Ac,Ad,Ae,Af,Ag,Ah,Ai,Aj,Ak,Al,Am,An,Ao,Ap,Aq,Ar,As,At,Au,Av,Aw,Ax,Ay,Az,A0,A3,A4,A5,A6,A7,A8,A9,Ba,Bb,Bc,Bd,Be,Bf,Bg,Bh,Bi,Bj,Bk,Bl,Bm,Bn,Bo,Bp,Bq,Br,Bs,Bt,Bu,Bv,Bw,Bx,By,Bz,B0,B1,B2,B3,B4,B5,B6,B7,B8,B9,Ca,Cb,Cc,Cd,Ce,Cf,Cg,Ch,Ci,Cj,Ck,Cl,Cm,Cn,Co,Cp,Cq,Cr,Cs,Ct,Cu,Cv,Cw,Cx,Cy,Cz,C0,C1,C2,C7,C8,C9,Da,Db,Dc,Dd,De,Df,Dg,Dh,Di,Dj,Dk,Dl,Dm,Dn,Do,Dp,Dq,Dr,Ds,Dt,Du,Dv,Dw,Dx,Dy,Dz,D0,D1,D2,D3,D4,D5,D6,D7,D8,D9,Ea,Eb,Ec,Ed,Ee,Ef,Eg,Eh,Ei,Ej,Ek,El,Em,En,Eo,Ep,Er,Es,Et,Eu,Ev,Ew,Ex,Ey,Ez,E0,E1,E4,E5,E6,E7,E8,E9,Fa,Fb,Fc,Fd,Fe,Ff,Fg,Fh,Fi,Fj,Fk,Fl,Fm,Fn,Fo,Fp,Fq,Fr,Fs,Ft,Fu,Fv,Fw,Fx,Fy,Fz,F0,F1,F2,F3,F4,F5,F6,F7,F8,F9,Ga,Gb,Gc,Gd,Ge,Gf,Gg,Gh,Gi,Gj,Gk,Gl,Gm,Gn,Gp,Gq,Gr,Gs,Gt,Gu,Gv,Gw,Gx,Gy,Gz,G0,G8,G9,Ha,Hb,Hc,Hd,He,Hf,Hg,Hh,Hi,Hj,Hk,Hl,Hm,Hn,Ho,Hp,Hq,Hr,Hs,Ht,Hu,Hv,Hw,Hx,Hy,Hz,H1,H2,H3,H4,H5,H6,H7,H8,H9,Ia,Ib,Ic,Ie,If,Ig,Ih,Ii,Ij,Ik,Il,Im,In,Io,Ip,Iq,Ir,Is,It,Iu,Iv,Iw,Ix,Iy,Iz,I0,I1,I2,I3,I4,I5,I6,I7,I8,I9,Ja,Jb,Jc,Jd,Je,Jf,Jg,Jh,Ji,Jj,Jk,Jl,Jm,Jn,Jo,Jp,Jq,Jr,Js,Jt,Ju,Jv,Jw,Jx,Jy,Jz,J0,J1,J2,J3,J4,J5,J6,J7,J8,J9,Ka,Kb,Kc,Ke,Kf,Kg,Kh,Ki,Kj,Kk,Kl,Km,Kn,Ko,Kp,Kq,Kr,Ks,Kt,Ku,Kv,Kw,Kx,Ky,Kz,K0,K1,K3,K4,K5,K6,K7,K8,K9,La,Lb,Lc,Ld,Le,Lf,Lg,Lh,Li,Lj,Lk,Ll,Lm,Ln,Lo,Lp,Lq,Lr,Ls,Lt,Lu,Lv,Lw,Lx,Ly,Lz,L0,L1,L2,L3,L4,L5,L6,L7,L8,L9,Ma,Mb,Mc,Md,Me,Mf,Mg,Mh,Mi,Mj,Mk,Ml,Mm,.bool false,Mo,Mp,Mq,Mr,Ms,Mt,Mu,Mv,Mw,Mx,My,Mz,M0,M1,M2,M3,M4,M5,M6,M7,M8,M9,Na,Nb,Nc,Nd,Nf,Ng,Nh,Ni,Nj,Nk,Nl,Nm,Nn,No,Np,Nq,Nr,Ns,Nt,Nu,Nv,Nw,Nx,Ny,Nz,N0,N1,N2,N3,N4,N5,N6,N7,N8,N9,Oa,Ob,Oc,Od,Oe,Of,Og,Oh,Oi,Oj,Ok,Ol,Om,On,Oo,Op,Oq,Os,Ot,Ou,Ov,Ow,Ox,Oy,Oz,O0,O1,O2,O3,O4,O5,O6,O7,O8,O9,Pa,Pb,Pc,Pd,Pe,Pf,Pg,Ph,Pi,Pj,Pk,Pl,Pm,Pn,Po],[]⟩ wr := by
  conv => arg 2; whnf
  have HKK := Aside0.mk hK
  clear hK
  go_wp2_with fail
  exact HKK.out ⟨(by repeat first|(with_reducible first|exact HB.out|apply below_alloc|apply pw_below_drewN|apply below_drew1)|exact HB.out)⟩
end Go.Proofs.Ytleacijhpkogpac.HBigT
/- The law on who rises (FnHeightsRiseOfAll),a part of its walk: orders,counted one by one. -/
namespace Go.Proofs.Ytleacijhpkogpac.HBigT
open Go.RowKit YtleacijhpkogpacW.PrintWords YtleacijhpkogpacW.PrintLast YtleacijhpkogpacW.PrintMore Part HImpl

theorem partF (p n : Nat) (wb : World) {Aa Ab Ac Ad Ae Af Ag Ai Aj Ak Al Am An Ao Ap Aq Ar As At Au Av Aw Ax Ay Az A0 A3 A4 A5 A6 A7 A8 A9 Ba Bb Bc Bd Be Bf Bg Bh Bi Bj Bk Bl Bm Bn Bo Bp Bq Br Bs Bt Bu Bv Bw Bx By Bz B0 B1 B2 B3 B4 B5 B6 B7 B8 B9 Cb Cc Cd Ce Cf Cg Ch Ci Cj Ck Cl Cm Cn Co Cp Cq Cr Cs Ct Cu Cv Cw Cx Cy Cz C0 C1 C2 C7 C8 C9 Da Db Dc Dd De Df Dg Dh Di Dj Dk Dl Dm Dn Do Dp Dq Dr Ds Dt Du Dv Dw Dx Dy Dz D0 D1 D2 D3 D4 D5 D6 D7 D8 D9 Ea Eb Ec Ed Ee Ef Eg Eh Ei Ej Ek El Em En Eo Ep Er Es Et Eu Ev Ew Ex Ey Ez E0 E1 E4 E5 E6 E7 E8 E9 Fa Fb Fc Fd Fe Ff Fg Fh Fi Fj Fk Fl Fm Fn Fo Fp Fq Fr Fs Ft Fu Fv Fw Fx Fy Fz F0 F1 F2 F3 F4 F5 F6 F7 F8 F9 Ga Gb Gc Gd Ge Gf Gg Gh Gi Gj Gk Gl Gm Gn Gp Gq Gr Gs Gt Gu Gv Gw Gx Gy Gz G0 G8 G9 Ha Hb Hc Hd He Hf Hg Hh Hi Hj Hk Hl Hm Hn Ho Hp Hq Hr Hs Ht Hu Hv Hw Hx Hy Hz H1 H2 H3 H4 H5 H6 H7 H8 H9 Ia Ib Ic Ie If Ig Ih Ii Ij Ik Il Im In Io Ip Iq Ir Is It Iu Iv Iw Ix Iy Iz I0 I1 I2 I3 I4 I5 I6 I7 I8 I9 Ja Jb Jc Jd Je Jf Jg Jh Ji Jj Jk Jl Jm Jn Jo Jp Jq Jr Js Jt Ju Jv Jw Jx Jy Jz J0 J1 J2 J3 J4 J5 J6 J7 J8 J9 Ka Kb Kc Ke Kf Kg Kh Ki Kj Kk Kl Km Kn Ko Kp Kq Kr Ks Kt Ku Kv Kw Kx Ky Kz K0 K1 K3 K4 K5 K6 K7 K8 K9 La Lb Lc Ld Le Lf Lg Lh Li Lj Lk Ll Lm Ln Lo Lp Lq Lr Ls Lt Lu Lv Lw Lx Ly Lz L0 L1 L2 L3 L4 L5 L6 L7 L8 L9 Ma Mb Mc Md Me Mf Mg Mh Mi Mj Mk Ml Mm Mn Mo Mp Mq Mr Ms Mt Mu Mv Mw Mx My Mz M0 M1 M2 M3 M4 M5 M6 M7 M8 M9 Na Nb Nc Nd Nf Ng Nh Ni Nj Nk Nl Nm Nn No Np Nq Nr Ns Nt Nu Nv Nw Nx Ny Nz N0 N1 N2 N3 N4 N5 N6 N7 N8 N9 Oa Ob Oc Od Oe Of Og Oh Oi Oj Ok Ol Om On Oo Op Oq Os Ot Ou Ov Ow Ox Oy Oz O0 O1 O2 O3 O4 O5 O6 O7 O8 O9 Pa Pb Pc Pd Pe Pf Pg Ph Pi Pj Pk Pl Pm Pn Po : Value} (wr : World)
    (HB : Aside0 (Below wb.heap.size wb wr))
    (hp : p = n + 1) (hn : n ≤ 14) (HFB : Aside0 (∀ i : Nat,i ≤ 14 → HRiseQ.allS i ≤ 1307674368000))
    (Q' : Exit → Act → World → Prop) (K' : Act → World → Prop)
    (hK : ∀ ⦃Py P1 Rz R0 R1 R2 R3 R4 R5 R6 : Value⦄ ⦃w' : World⦄,Py = .int .i64 (HRiseQ.allS n : Int) → Aside0 (Below wb.heap.size wb w') → K' ⟨#[Aa,Ab,Ac,Ad,Ae,Af,Ag,.int .i64 (p : Int),Ai,Aj,Ak,Al,Am,An,Ao,Ap,Aq,Ar,As,At,Au,Av,Aw,Ax,Ay,Az,A0,A3,A4,A5,A6,A7,A8,A9,Ba,Bb,Bc,Bd,Be,Bf,Bg,Bh,Bi,Bj,Bk,Bl,Bm,Bn,Bo,Bp,Bq,Br,Bs,Bt,Bu,Bv,Bw,Bx,By,Bz,B0,B1,B2,B3,B4,B5,B6,B7,B8,B9,Py,Cb,Cc,P1,Ce,Cf,Cg,Ch,Ci,Cj,Ck,Cl,Cm,Cn,Co,Cp,Cq,Cr,Cs,Ct,Cu,Cv,Cw,Cx,Cy,Cz,C0,C1,C2,C7,C8,C9,Da,Db,Dc,Dd,De,Df,Dg,Dh,Di,Dj,Dk,Dl,Dm,Dn,Do,Dp,Dq,Dr,Ds,Dt,Du,Dv,Dw,Dx,Dy,Dz,D0,D1,D2,D3,D4,D5,D6,D7,D8,D9,Ea,Eb,Ec,Ed,Ee,Ef,Eg,Eh,Ei,Ej,Ek,El,Em,En,Eo,Ep,Er,Es,Et,Eu,Ev,Ew,Ex,Ey,Ez,E0,E1,E4,E5,E6,E7,E8,E9,Fa,Fb,Fc,Fd,Fe,Ff,Fg,Fh,Fi,Fj,Fk,Fl,Fm,Fn,Fo,Fp,Fq,Fr,Fs,Ft,Fu,Fv,Fw,Fx,Fy,Fz,F0,F1,F2,F3,F4,F5,F6,F7,F8,F9,Ga,Gb,Gc,Gd,Ge,Gf,Gg,Gh,Gi,Gj,Gk,Gl,Gm,Gn,Gp,Gq,Gr,Gs,Gt,Gu,Gv,Gw,Gx,Gy,Gz,G0,G8,G9,Ha,Hb,Hc,Hd,He,Hf,Hg,Hh,Hi,Hj,Hk,Hl,Hm,Hn,Ho,Hp,Hq,Hr,Hs,Ht,Hu,Hv,Hw,Hx,Hy,Hz,H1,H2,H3,H4,H5,H6,H7,H8,H9,Ia,Ib,Ic,Ie,If,Ig,Ih,Ii,Ij,Ik,Il,Im,In,Io,Ip,Iq,Ir,Is,It,Iu,Iv,Iw,Ix,Iy,Iz,I0,I1,I2,I3,I4,I5,I6,I7,I8,I9,Ja,Jb,Jc,Jd,Je,Jf,Jg,Jh,Ji,Jj,Jk,Jl,Jm,Jn,Jo,Jp,Jq,Jr,Js,Jt,Ju,Jv,Jw,Jx,Jy,Jz,J0,J1,J2,J3,J4,J5,J6,J7,J8,J9,Ka,Kb,Kc,Ke,Kf,Kg,Kh,Ki,Kj,Kk,Kl,Km,Kn,Ko,Kp,Kq,Kr,Ks,Kt,Ku,Kv,Kw,Kx,Ky,Kz,K0,K1,K3,K4,K5,K6,K7,K8,K9,La,Lb,Lc,Ld,Le,Lf,Lg,Lh,Li,Lj,Lk,Ll,Lm,Ln,Lo,Lp,Lq,Lr,Ls,Lt,Lu,Lv,Lw,Lx,Ly,Lz,L0,L1,L2,L3,L4,L5,L6,L7,L8,L9,Ma,Mb,Mc,Md,Me,Mf,Mg,Mh,Mi,Mj,Mk,Ml,Mm,Mn,Mo,Mp,Mq,Mr,Ms,Mt,Mu,Mv,Mw,Mx,My,Mz,M0,M1,M2,M3,M4,M5,M6,M7,M8,M9,Na,Nb,Nc,Nd,Nf,Ng,Nh,Ni,Nj,Nk,Nl,Nm,Nn,No,Np,Nq,Nr,Ns,Nt,Nu,Nv,Nw,Nx,Ny,Nz,N0,N1,N2,Rz,R0,R1,R2,R3,R4,R5,R6,Ob,Oc,Od,Oe,Of,Og,Oh,Oi,Oj,Ok,Ol,Om,On,Oo,Op,Oq,Os,Ot,Ou,Ov,Ow,Ox,Oy,Oz,O0,O1,O2,O3,O4,O5,O6,O7,O8,O9,Pa,Pb,Pc,Pd,Pe,Pf,Pg,Ph,Pi,Pj,Pk,Pl,Pm,Pn,Po],[]⟩ w') :
    Code.wp Try.prog (seqOf Try.f7 61) (Exit.then K' Q') ⟨#[Aa,Ab,Ac,Ad,Ae,Af,Ag,.int .i64 (p : Int),Ai,Aj,Ak,Al,Am,An,Ao,Ap,Aq,Ar,As,At,Au,Av,Aw,Ax,Ay,Az,A0,A3,A4,A5,A6,A7,A8,A9,Ba,Bb,Bc,Bd,Be,Bf,Bg,Bh,Bi,Bj,Bk,Bl,Bm,Bn,Bo,Bp,Bq,Br,Bs,Bt,Bu,Bv,Bw,Bx,By,Bz,B0,B1,B2,B3,B4,B5,B6,B7,B8,B9,.int .i64 1,Cb,Cc,Cd,Ce,Cf,Cg,Ch,Ci,Cj,Ck,Cl,Cm,Cn,Co,Cp,Cq,Cr,Cs,Ct,Cu,Cv,Cw,Cx,Cy,Cz,C0,C1,C2,C7,C8,C9,Da,Db,Dc,Dd,De,Df,Dg,Dh,Di,Dj,Dk,Dl,Dm,Dn,Do,Dp,Dq,Dr,Ds,Dt,Du,Dv,Dw,Dx,Dy,Dz,D0,D1,D2,D3,D4,D5,D6,D7,D8,D9,Ea,Eb,Ec,Ed,Ee,Ef,Eg,Eh,Ei,Ej,Ek,El,Em,En,Eo,Ep,Er,Es,Et,Eu,Ev,Ew,Ex,Ey,Ez,E0,E1,E4,E5,E6,E7,E8,E9,Fa,Fb,Fc,Fd,Fe,Ff,Fg,Fh,Fi,Fj,Fk,Fl,Fm,Fn,Fo,Fp,Fq,Fr,Fs,Ft,Fu,Fv,Fw,Fx,Fy,Fz,F0,F1,F2,F3,F4,F5,F6,F7,F8,F9,Ga,Gb,Gc,Gd,Ge,Gf,Gg,Gh,Gi,Gj,Gk,Gl,Gm,Gn,Gp,Gq,Gr,Gs,Gt,Gu,Gv,Gw,Gx,Gy,Gz,G0,G8,G9,Ha,Hb,Hc,Hd,He,Hf,Hg,Hh,Hi,Hj,Hk,Hl,Hm,Hn,Ho,Hp,Hq,Hr,Hs,Ht,Hu,Hv,Hw,Hx,Hy,Hz,H1,H2,H3,H4,H5,H6,H7,H8,H9,Ia,Ib,Ic,Ie,If,Ig,Ih,Ii,Ij,Ik,Il,Im,In,Io,Ip,Iq,Ir,Is,It,Iu,Iv,Iw,Ix,Iy,Iz,I0,I1,I2,I3,I4,I5,I6,I7,I8,I9,Ja,Jb,Jc,Jd,Je,Jf,Jg,Jh,Ji,Jj,Jk,Jl,Jm,Jn,Jo,Jp,Jq,Jr,Js,Jt,Ju,Jv,Jw,Jx,Jy,Jz,J0,J1,J2,J3,J4,J5,J6,J7,J8,J9,Ka,Kb,Kc,Ke,Kf,Kg,Kh,Ki,Kj,Kk,Kl,Km,Kn,Ko,Kp,Kq,Kr,Ks,Kt,Ku,Kv,Kw,Kx,Ky,Kz,K0,K1,K3,K4,K5,K6,K7,K8,K9,La,Lb,Lc,Ld,Le,Lf,Lg,Lh,Li,Lj,Lk,Ll,Lm,Ln,Lo,Lp,Lq,Lr,Ls,Lt,Lu,Lv,Lw,Lx,Ly,Lz,L0,L1,L2,L3,L4,L5,L6,L7,L8,L9,Ma,Mb,Mc,Md,Me,Mf,Mg,Mh,Mi,Mj,Mk,Ml,Mm,Mn,Mo,Mp,Mq,Mr,Ms,Mt,Mu,Mv,Mw,Mx,My,Mz,M0,M1,M2,M3,M4,M5,M6,M7,M8,M9,Na,Nb,Nc,Nd,Nf,Ng,Nh,Ni,Nj,Nk,Nl,Nm,Nn,No,Np,Nq,Nr,Ns,Nt,Nu,Nv,Nw,Nx,Ny,Nz,N0,N1,N2,N3,N4,N5,N6,N7,N8,N9,Oa,Ob,Oc,Od,Oe,Of,Og,Oh,Oi,Oj,Ok,Ol,Om,On,Oo,Op,Oq,Os,Ot,Ou,Ov,Ow,Ox,Oy,Oz,O0,O1,O2,O3,O4,O5,O6,O7,O8,O9,Pa,Pb,Pc,Pd,Pe,Pf,Pg,Ph,Pi,Pj,Pk,Pl,Pm,Pn,Po],[]⟩ wr := by
  conv => arg 2; whnf
  have HKK := Aside0.mk hK
  clear hK
  have HP := Aside0.mk hp
  have h0 := HRiseQ.allS_zero
  have H0 := Aside0.mk h0
  clear hp h0
  go_wp2_with fail
  go_loopg [70,73] p (fun kq v70 v73 w' => ∃ a s : Nat,v70 = .int .i64 (s : Int) ∧ v73 = .int .i64 (a : Int) ∧ Aside0 (2 ≤ a ∧ s = HRiseQ.allS (a - 2) ∧ a ≤ p + 1) ∧ Aside0 (kq + a = p + 2) ∧ Aside0 (Below wb.heap.size wb w'))
  case atStart => exact ⟨2,1,rfl,rfl,⟨by omega,H0.out.symm,by have := HP.out; omega⟩,⟨rfl⟩,⟨(by repeat first|(with_reducible first|exact HB.out|apply below_alloc|apply pw_below_drewN|apply below_drew1)|exact HB.out)⟩⟩
  case round =>
    clear HB
    obtain ⟨a,s,rfl,rfl,HS,HK,HB⟩ := hrel
    have hk := HK.out
    by_cases hi : a ≤ p
    · have HK0 := Aside0.mk hk
      have HI0 := Aside0.mk hi
      have hs := HS.out
      have hb1 := HFB.out (a - 2) (by have := HP.out; omega)
      rw [← hs.2.1] at hb1
      have ha16 : a ≤ 15 := by have := HP.out; omega
      have hmul := Nat.mul_le_mul hb1 ha16
      have hz1 := HWR.mul_w s a (by omega)
      have HST := Aside0.mk (show s * a = HRiseQ.allS (a + 1 - 2) by
        rw [show a + 1 - 2 = (a - 2) + 1 by omega,HRiseQ.allS_step,hs.2.1,Nat.mul_comm,show a - 2 + 2 = a by omega])
      have hw : IntKind.i64.wrap ((a : Int) + 1) = (a : Int) + 1 := IntWalk.i64_in _ (by omega)
      have d1 : decide (a ≤ p) = true := decide_eq_true hi
      have d2 : decide ((a : Int) ≤ (p : Int)) = true := decide_eq_true (by omega)
      generalize s * a = sa at hz1 HST
      clear hk hs hb1 hmul hi
      go_wp2_with fail
      go_roundg (p + 1 - a)
      case measure => have := HK0.out; have := HI0.out; omega
      case rel => exact ⟨a + 1,sa,rfl,by first | rfl | simp,⟨by have := HS.out; omega,HST.out,by have := HI0.out; omega⟩,⟨by have := HK0.out; have := HI0.out; omega⟩,⟨(by repeat first|(with_reducible first|exact HB.out|apply below_alloc|apply pw_below_drewN|apply below_drew1)|exact HB.out)⟩⟩
    · have d1 : decide (a ≤ p) = false := decide_eq_false hi
      have d2 : decide ((a : Int) ≤ (p : Int)) = false := decide_eq_false (by omega)
      have hs := HS.out
      have hap : a - 2 = n := by have := HP.out; omega
      rw [hap] at hs
      obtain rfl := hs.2.1
      clear hk hs hap hi HS
      generalize HRiseQ.allS n = s at *
      go_wp2_with fail
      exact HKK.out rfl ⟨(by repeat first|(with_reducible first|exact HB.out|apply below_alloc|apply pw_below_drewN|apply below_drew1)|exact HB.out)⟩
theorem partS (p n : Nat) (wb : World) {Aa Ab Ac Ad Ae Af Ag Ai Aj Ak Al Am An Ao Ap Aq Ar As At Au Av Aw Ax Ay Az A0 A3 A4 A5 A6 A7 A8 A9 Ba Bb Bc Bd Be Bf Bg Bh Bi Bj Bk Bl Bm Bn Bo Bp Bq Br Bs Bt Bu Bv Bw Bx By Bz B0 B1 B2 B3 B4 B5 B6 B7 B8 B9 Ca Cd Ce Cf Cg Ch Ci Cj Ck Cl Cm Cn Co Cp Cq Cr Cs Ct Cu Cv Cw Cx Cy Cz C0 C1 C2 C7 C8 C9 Da Db Dc Dd De Df Dg Dh Di Dj Dk Dl Dm Dn Do Dp Dq Dr Ds Dt Du Dv Dw Dx Dy Dz D0 D1 D2 D3 D4 D5 D6 D7 D8 D9 Ea Eb Ec Ed Ee Ef Eg Eh Ei Ej Ek El Em En Eo Ep Er Es Et Eu Ev Ew Ex Ey Ez E0 E1 E4 E5 E6 E7 E8 E9 Fa Fb Fc Fd Fe Ff Fg Fh Fi Fj Fk Fl Fm Fn Fo Fp Fq Fr Fs Ft Fu Fv Fw Fx Fy Fz F0 F1 F2 F3 F4 F5 F6 F7 F8 F9 Ga Gb Gc Gd Ge Gf Gg Gh Gi Gj Gk Gl Gm Gn Gp Gq Gr Gs Gt Gu Gv Gw Gx Gy Gz G0 G8 G9 Ha Hb Hc Hd He Hf Hg Hh Hi Hj Hk Hl Hm Hn Ho Hp Hq Hr Hs Ht Hu Hv Hw Hx Hy Hz H1 H2 H3 H4 H5 H6 H7 H8 H9 Ia Ib Ic Ie If Ig Ih Ii Ij Ik Il Im In Io Ip Iq Ir Is It Iu Iv Iw Ix Iy Iz I0 I1 I2 I3 I4 I5 I6 I7 I8 I9 Ja Jb Jc Jd Je Jf Jg Jh Ji Jj Jk Jl Jm Jn Jo Jp Jq Jr Js Jt Ju Jv Jw Jx Jy Jz J0 J1 J2 J3 J4 J5 J6 J7 J8 J9 Ka Kb Kc Ke Kf Kg Kh Ki Kj Kk Kl Km Kn Ko Kp Kq Kr Ks Kt Ku Kv Kw Kx Ky Kz K0 K1 K3 K4 K5 K6 K7 K8 K9 La Lb Lc Ld Le Lf Lg Lh Li Lj Lk Ll Lm Ln Lo Lp Lq Lr Ls Lt Lu Lv Lw Lx Ly Lz L0 L1 L2 L3 L4 L5 L6 L7 L8 L9 Ma Mb Mc Md Me Mf Mg Mh Mi Mj Mk Ml Mm Mn Mo Mp Mq Mr Ms Mt Mu Mv Mw Mx My Mz M0 M1 M2 M3 M4 M5 M6 M7 M8 M9 Na Nb Nc Nd Nf Ng Nh Ni Nj Nk Nl Nm Nn No Np Nq Nr Ns Nt Nu Nv Nw Nx Ny Nz N0 N1 N2 N3 N4 N5 N6 N7 N8 N9 Oa Ob Oc Od Oe Of Og Oh Oi Oj Ok Ol Om On Oo Op Oq Os Ot Ou Ov Ow Ox Oy Oz O0 O1 O2 O3 O4 O5 O6 O7 O8 O9 Pa Pb Pc Pd Pe Pf Pg Ph Pi Pj Pk Pl Pm Pn Po : Value} (wr : World)
    (HB : Aside0 (Below wb.heap.size wb wr))
    (hp : p = n + 1) (hn : n ≤ 14)
    (HCB : Aside0 (∀ i j : Nat,i ≤ p → j ≤ p → ∀ W,Below wb.heap.size wb W → Calls Try.prog 9 #[.int .i64 (p : Int),.int .i64 (i : Int),.int .i64 (j : Int)] W fun e w' => e = .returned (.tuple #[.int .i64 (HPlain.seenC n i j : Int),.bool true]) ∧ Drawn0 W w'))
    (HBD : Aside0 (∀ i j : Nat,i ≤ p → j ≤ p → HRiseP.sm (HRiseQ.rowS n) i + HRiseP.sm (fun j => HPlain.seenC n i j) (j + 1) ≤ 100000000000000 ∧ HRiseP.sm (fun i => i * HRiseQ.rowS n i) i + i * HRiseP.sm (fun j => HPlain.seenC n i j) (j + 1) ≤ 100000000000000))
    (Q' : Exit → Act → World → Prop) (K' : Act → World → Prop)
    (hK : ∀ ⦃Pp Pz P0 P2 P3 P4 P5 R7 R8 R9 Sb Sc Sd Se Sf Sg Sh Si Sj Sk Sl Sm Sn So Sp Sq Sr Ss St Su Sv Sw Sx Sy : Value⦄ ⦃w' : World⦄,Pz = .int .i64 (HRiseQ.allS n : Int) → P0 = .int .i64 (HRiseQ.allW n : Int) → Aside0 (Below wb.heap.size wb w') → K' ⟨#[Aa,Ab,Ac,Ad,Ae,Af,Ag,.int .i64 (p : Int),Ai,Aj,Ak,Al,Am,An,Ao,Ap,Pp,Ar,As,At,Au,Av,Aw,Ax,Ay,Az,A0,A3,A4,A5,A6,A7,A8,A9,Ba,Bb,Bc,Bd,Be,Bf,Bg,Bh,Bi,Bj,Bk,Bl,Bm,Bn,Bo,Bp,Bq,Br,Bs,Bt,Bu,Bv,Bw,Bx,By,Bz,B0,B1,B2,B3,B4,B5,B6,B7,B8,B9,Ca,Pz,P0,Cd,P2,P3,P4,P5,Ci,Cj,Ck,Cl,Cm,Cn,Co,Cp,Cq,Cr,Cs,Ct,Cu,Cv,Cw,Cx,Cy,Cz,C0,C1,C2,C7,C8,C9,Da,Db,Dc,Dd,De,Df,Dg,Dh,Di,Dj,Dk,Dl,Dm,Dn,Do,Dp,Dq,Dr,Ds,Dt,Du,Dv,Dw,Dx,Dy,Dz,D0,D1,D2,D3,D4,D5,D6,D7,D8,D9,Ea,Eb,Ec,Ed,Ee,Ef,Eg,Eh,Ei,Ej,Ek,El,Em,En,Eo,Ep,Er,Es,Et,Eu,Ev,Ew,Ex,Ey,Ez,E0,E1,E4,E5,E6,E7,E8,E9,Fa,Fb,Fc,Fd,Fe,Ff,Fg,Fh,Fi,Fj,Fk,Fl,Fm,Fn,Fo,Fp,Fq,Fr,Fs,Ft,Fu,Fv,Fw,Fx,Fy,Fz,F0,F1,F2,F3,F4,F5,F6,F7,F8,F9,Ga,Gb,Gc,Gd,Ge,Gf,Gg,Gh,Gi,Gj,Gk,Gl,Gm,Gn,Gp,Gq,Gr,Gs,Gt,Gu,Gv,Gw,Gx,Gy,Gz,G0,G8,G9,Ha,Hb,Hc,Hd,He,Hf,Hg,Hh,Hi,Hj,Hk,Hl,Hm,Hn,Ho,Hp,Hq,Hr,Hs,Ht,Hu,Hv,Hw,Hx,Hy,Hz,H1,H2,H3,H4,H5,H6,H7,H8,H9,Ia,Ib,Ic,Ie,If,Ig,Ih,Ii,Ij,Ik,Il,Im,In,Io,Ip,Iq,Ir,Is,It,Iu,Iv,Iw,Ix,Iy,Iz,I0,I1,I2,I3,I4,I5,I6,I7,I8,I9,Ja,Jb,Jc,Jd,Je,Jf,Jg,Jh,Ji,Jj,Jk,Jl,Jm,Jn,Jo,Jp,Jq,Jr,Js,Jt,Ju,Jv,Jw,Jx,Jy,Jz,J0,J1,J2,J3,J4,J5,J6,J7,J8,J9,Ka,Kb,Kc,Ke,Kf,Kg,Kh,Ki,Kj,Kk,Kl,Km,Kn,Ko,Kp,Kq,Kr,Ks,Kt,Ku,Kv,Kw,Kx,Ky,Kz,K0,K1,K3,K4,K5,K6,K7,K8,K9,La,Lb,Lc,Ld,Le,Lf,Lg,Lh,Li,Lj,Lk,Ll,Lm,Ln,Lo,Lp,Lq,Lr,Ls,Lt,Lu,Lv,Lw,Lx,Ly,Lz,L0,L1,L2,L3,L4,L5,L6,L7,L8,L9,Ma,Mb,Mc,Md,Me,Mf,Mg,Mh,Mi,Mj,Mk,Ml,Mm,Mn,Mo,Mp,Mq,Mr,Ms,Mt,Mu,Mv,Mw,Mx,My,Mz,M0,M1,M2,M3,M4,M5,M6,M7,M8,M9,Na,Nb,Nc,Nd,Nf,Ng,Nh,Ni,Nj,Nk,Nl,Nm,Nn,No,Np,Nq,Nr,Ns,Nt,Nu,Nv,Nw,Nx,Ny,Nz,N0,N1,N2,N3,N4,N5,N6,N7,N8,N9,Oa,R7,R8,R9,Sb,Sc,Sd,Se,Sf,Sg,Sh,Si,Sj,Sk,Sl,Sm,Sn,So,Sp,Sq,Sr,Ss,St,Su,Sv,Sw,Sx,Sy,O3,O4,O5,O6,O7,O8,O9,Pa,Pb,Pc,Pd,Pe,Pf,Pg,Ph,Pi,Pj,Pk,Pl,Pm,Pn,Po],[]⟩ w') :
    Code.wp Try.prog (seqOf Try.f7 65) (Exit.then K' Q') ⟨#[Aa,Ab,Ac,Ad,Ae,Af,Ag,.int .i64 (p : Int),Ai,Aj,Ak,Al,Am,An,Ao,Ap,Aq,Ar,As,At,Au,Av,Aw,Ax,Ay,Az,A0,A3,A4,A5,A6,A7,A8,A9,Ba,Bb,Bc,Bd,Be,Bf,Bg,Bh,Bi,Bj,Bk,Bl,Bm,Bn,Bo,Bp,Bq,Br,Bs,Bt,Bu,Bv,Bw,Bx,By,Bz,B0,B1,B2,B3,B4,B5,B6,B7,B8,B9,Ca,.int .i64 0,.int .i64 0,Cd,Ce,Cf,Cg,Ch,Ci,Cj,Ck,Cl,Cm,Cn,Co,Cp,Cq,Cr,Cs,Ct,Cu,Cv,Cw,Cx,Cy,Cz,C0,C1,C2,C7,C8,C9,Da,Db,Dc,Dd,De,Df,Dg,Dh,Di,Dj,Dk,Dl,Dm,Dn,Do,Dp,Dq,Dr,Ds,Dt,Du,Dv,Dw,Dx,Dy,Dz,D0,D1,D2,D3,D4,D5,D6,D7,D8,D9,Ea,Eb,Ec,Ed,Ee,Ef,Eg,Eh,Ei,Ej,Ek,El,Em,En,Eo,Ep,Er,Es,Et,Eu,Ev,Ew,Ex,Ey,Ez,E0,E1,E4,E5,E6,E7,E8,E9,Fa,Fb,Fc,Fd,Fe,Ff,Fg,Fh,Fi,Fj,Fk,Fl,Fm,Fn,Fo,Fp,Fq,Fr,Fs,Ft,Fu,Fv,Fw,Fx,Fy,Fz,F0,F1,F2,F3,F4,F5,F6,F7,F8,F9,Ga,Gb,Gc,Gd,Ge,Gf,Gg,Gh,Gi,Gj,Gk,Gl,Gm,Gn,Gp,Gq,Gr,Gs,Gt,Gu,Gv,Gw,Gx,Gy,Gz,G0,G8,G9,Ha,Hb,Hc,Hd,He,Hf,Hg,Hh,Hi,Hj,Hk,Hl,Hm,Hn,Ho,Hp,Hq,Hr,Hs,Ht,Hu,Hv,Hw,Hx,Hy,Hz,H1,H2,H3,H4,H5,H6,H7,H8,H9,Ia,Ib,Ic,Ie,If,Ig,Ih,Ii,Ij,Ik,Il,Im,In,Io,Ip,Iq,Ir,Is,It,Iu,Iv,Iw,Ix,Iy,Iz,I0,I1,I2,I3,I4,I5,I6,I7,I8,I9,Ja,Jb,Jc,Jd,Je,Jf,Jg,Jh,Ji,Jj,Jk,Jl,Jm,Jn,Jo,Jp,Jq,Jr,Js,Jt,Ju,Jv,Jw,Jx,Jy,Jz,J0,J1,J2,J3,J4,J5,J6,J7,J8,J9,Ka,Kb,Kc,Ke,Kf,Kg,Kh,Ki,Kj,Kk,Kl,Km,Kn,Ko,Kp,Kq,Kr,Ks,Kt,Ku,Kv,Kw,Kx,Ky,Kz,K0,K1,K3,K4,K5,K6,K7,K8,K9,La,Lb,Lc,Ld,Le,Lf,Lg,Lh,Li,Lj,Lk,Ll,Lm,Ln,Lo,Lp,Lq,Lr,Ls,Lt,Lu,Lv,Lw,Lx,Ly,Lz,L0,L1,L2,L3,L4,L5,L6,L7,L8,L9,Ma,Mb,Mc,Md,Me,Mf,Mg,Mh,Mi,Mj,Mk,Ml,Mm,Mn,Mo,Mp,Mq,Mr,Ms,Mt,Mu,Mv,Mw,Mx,My,Mz,M0,M1,M2,M3,M4,M5,M6,M7,M8,M9,Na,Nb,Nc,Nd,Nf,Ng,Nh,Ni,Nj,Nk,Nl,Nm,Nn,No,Np,Nq,Nr,Ns,Nt,Nu,Nv,Nw,Nx,Ny,Nz,N0,N1,N2,N3,N4,N5,N6,N7,N8,N9,Oa,Ob,Oc,Od,Oe,Of,Og,Oh,Oi,Oj,Ok,Ol,Om,On,Oo,Op,Oq,Os,Ot,Ou,Ov,Ow,Ox,Oy,Oz,O0,O1,O2,O3,O4,O5,O6,O7,O8,O9,Pa,Pb,Pc,Pd,Pe,Pf,Pg,Ph,Pi,Pj,Pk,Pl,Pm,Pn,Po],[]⟩ wr := by
  conv => arg 2; whnf
  have HKK := Aside0.mk hK
  clear hK
  have HP := Aside0.mk hp
  clear hp
  go_wp2_with fail
  go_loopg [71,72,74] (p + 1) (fun kq v71 v72 v74 w' => ∃ i s q : Nat,v71 = .int .i64 (s : Int) ∧ v72 = .int .i64 (q : Int) ∧ v74 = .int .i64 (i : Int) ∧ Aside0 (s = HRiseP.sm (HRiseQ.rowS n) i ∧ q = HRiseP.sm (fun i => i * HRiseQ.rowS n i) i ∧ i ≤ p + 1) ∧ Aside0 (kq + i = p + 1) ∧ Aside0 (Below wb.heap.size wb w'))
  case atStart => exact ⟨0,0,0,rfl,rfl,rfl,⟨rfl,rfl,by omega⟩,⟨rfl⟩,⟨(by repeat first|(with_reducible first|exact HB.out|apply below_alloc|apply pw_below_drewN|apply below_drew1)|exact HB.out)⟩⟩
  case round =>
    clear HB
    obtain ⟨i,s0,q0,rfl,rfl,rfl,HS,HK,HB⟩ := hrel
    have hk := HK.out
    by_cases hi : i ≤ p
    · have HK0 := Aside0.mk hk
      have HI0 := Aside0.mk hi
      have d1 : decide (i ≤ p) = true := decide_eq_true hi
      have d2 : decide ((i : Int) ≤ (p : Int)) = true := decide_eq_true (by omega)
      have hwi : IntKind.i64.wrap ((i : Int) + 1) = (i : Int) + 1 := IntWalk.i64_in _ (by have := HP.out; omega)
      clear hk
      go_wp2_with fail
      go_loopg [71,72,75] (p + 1) (fun kq v71 v72 v75 w' => ∃ j s q : Nat,v71 = .int .i64 (s : Int) ∧ v72 = .int .i64 (q : Int) ∧ v75 = .int .i64 (j : Int) ∧ Aside0 (s = s0 + HRiseP.sm (fun j => HPlain.seenC n i j) j ∧ q = q0 + i * HRiseP.sm (fun j => HPlain.seenC n i j) j ∧ j ≤ p + 1) ∧ Aside0 (kq + j = p + 1) ∧ Aside0 (Below wb.heap.size wb w'))
      case atStart => exact ⟨0,s0,q0,rfl,rfl,rfl,⟨rfl,rfl,by omega⟩,⟨rfl⟩,⟨(by repeat first|(with_reducible first|exact HB.out|apply below_alloc|apply pw_below_drewN|apply below_drew1)|exact HB.out)⟩⟩
      case round =>
        clear HB
        obtain ⟨j,s,q,rfl,rfl,rfl,HSJ,HKJ,HB⟩ := hrel
        have hkj := HKJ.out
        by_cases hj : j ≤ p
        · have HKJ0 := Aside0.mk hkj
          have HJ0 := Aside0.mk hj
          have hb := HBD.out i j hi hj
          have hs := HSJ.out
          have hs0 := HS.out
          have HC1 := Aside0.mk (HCB.out i j hi hj)
          have Ab : HRiseP.sm (fun j => HPlain.seenC n i j) (j + 1) = HRiseP.sm (fun j => HPlain.seenC n i j) j + HPlain.seenC n i j := rfl
          rw [Ab,Nat.mul_add,← hs0.1,← hs0.2.1] at hb
          have E2 := Aside0.mk (show s + HPlain.seenC n i j = s0 + HRiseP.sm (fun j => HPlain.seenC n i j) (j + 1) by rw [Ab,hs.1]; omega)
          have E3 := Aside0.mk (show q + i * HPlain.seenC n i j = q0 + i * HRiseP.sm (fun j => HPlain.seenC n i j) (j + 1) by rw [Ab,Nat.mul_add,hs.2.1]; omega)
          rw [← Nat.add_assoc,← Nat.add_assoc,← hs.1,← hs.2.1] at hb
          generalize HPlain.seenC n i j = c at HC1 E2 E3 hb
          have z1 := HWR.add_w s c (by omega)
          have z2 := HWR.mul_w i c (by omega)
          generalize i * c = ic at z2 E3 hb
          have z3 := HWR.add_w q ic (by omega)
          generalize s + c = sc at z1 E2
          generalize q + ic = qc at z3 E3
          have hwj : IntKind.i64.wrap ((j : Int) + 1) = (j : Int) + 1 := IntWalk.i64_in _ (by have := HP.out; omega)
          have d3 : decide (j ≤ p) = true := decide_eq_true hj
          have d4 : decide ((j : Int) ≤ (p : Int)) = true := decide_eq_true (by omega)
          clear hb hs hs0 Ab hkj hj hi
          go_wp2_with (go_at_call 9; with_reducible refine (HC1.out _ (by repeat first|(with_reducible first|exact HB.out|apply below_alloc|apply pw_below_drewN|apply below_drew1)|exact HB.out)).mono ?_; rintro e w1 ⟨rfl,⟨nd1,rfl⟩⟩; try dsimp only)
          go_roundg (p + 1 - (j + 1))
          case measure => have := HKJ0.out; have := HJ0.out; omega
          case rel => exact ⟨j + 1,sc,qc,rfl,rfl,by first | rfl | simp,⟨E2.out,E3.out,by have := HJ0.out; omega⟩,⟨by have := HKJ0.out; have := HJ0.out; omega⟩,⟨(by repeat first|(with_reducible first|exact HB.out|apply below_alloc|apply pw_below_drewN|apply below_drew1)|exact HB.out)⟩⟩
        · have d3 : decide (j ≤ p) = false := decide_eq_false hj
          have d4 : decide ((j : Int) ≤ (p : Int)) = false := decide_eq_false (by omega)
          have hs := HSJ.out
          have hje : j = n + 2 := by have := HP.out; omega
          have E2 := Aside0.mk (show s = HRiseP.sm (HRiseQ.rowS n) (i + 1) by rw [hs.1,HS.out.1,hje]; rfl)
          have E3 := Aside0.mk (show q = HRiseP.sm (fun i => i * HRiseQ.rowS n i) (i + 1) by rw [hs.2.1,HS.out.2.1,hje]; rfl)
          clear hs hkj hj hi hje
          go_wp2_with fail
          go_roundg (p + 1 - (i + 1))
          case measure => have := HK0.out; have := HI0.out; omega
          case rel => exact ⟨i + 1,s,q,rfl,rfl,by first | rfl | simp,⟨E2.out,E3.out,by have := HI0.out; omega⟩,⟨by have := HK0.out; have := HI0.out; omega⟩,⟨(by repeat first|(with_reducible first|exact HB.out|apply below_alloc|apply pw_below_drewN|apply below_drew1)|exact HB.out)⟩⟩
    · have d1 : decide (i ≤ p) = false := decide_eq_false hi
      have d2 : decide ((i : Int) ≤ (p : Int)) = false := decide_eq_false (by omega)
      have hs := HS.out
      have hie : i = n + 2 := by have := HP.out; omega
      have Ab : s0 = HRiseQ.allS n := by rw [hs.1,hie]; rfl
      have Ac : q0 = HRiseQ.allW n := by rw [hs.2.1,hie]; rfl
      subst Ab Ac
      clear hs hk hi HS hie
      generalize HRiseQ.allS n = s at *
      generalize HRiseQ.allW n = q at *
      go_wp2_with fail
      exact HKK.out rfl rfl ⟨(by repeat first|(with_reducible first|exact HB.out|apply below_alloc|apply pw_below_drewN|apply below_drew1)|exact HB.out)⟩
end Go.Proofs.Ytleacijhpkogpac.HBigT
/- The law on who rises (FnHeightsRiseOfAll),a part of its walk: means. -/
namespace Go.Proofs.Ytleacijhpkogpac.HBigT
open Go.RowKit YtleacijhpkogpacW.PrintWords YtleacijhpkogpacW.PrintLast YtleacijhpkogpacW.PrintMore Part HImpl

theorem partM (p n N D : Nat) (wb : World) {Aa Ab Ac Ad Ae Af Ag Ai Aj Ak Al Am An Ao Ap Aq Ar As At Au Av Aw Ax Ay Az A0 A3 A4 A5 A6 A7 A8 A9 Ba Bb Bc Bd Be Bf Bg Bh Bi Bj Bk Bl Bm Bn Bo Bp Bq Br Bs Bt Bu Bv By Bz B0 B1 B2 B3 B4 B5 B6 B7 B8 B9 Ca Cb Cc Cd Ce Cf Cg Ch Ci Cj Ck Cl Cm Cn Co Cp Cq Cr Cs Ct Cu Cv Cw Cx Cy Cz C0 C1 C2 C7 C8 C9 Da Db Dc Dd De Df Dg Dh Di Dj Dk Dl Dm Dn Do Dp Dq Dr Ds Dt Du Dv Dw Dx Dy Dz D0 D1 D2 D3 D4 D5 D6 D7 D8 D9 Ea Eb Ec Ed Ee Ef Eg Eh Ei Ej Ek El Em En Eo Ep Er Es Et Eu Ev Ew Ex Ey Ez E0 E1 E4 E5 E6 E7 E8 E9 Fa Fb Fc Fd Fe Ff Fg Fh Fi Fj Fk Fl Fm Fn Fo Fp Fq Fr Fs Ft Fu Fv Fw Fx Fy Fz F0 F1 F2 F3 F4 F5 F6 F7 F8 F9 Ga Gb Gc Gd Ge Gf Gg Gh Gi Gj Gk Gl Gm Gn Gp Gq Gr Gs Gt Gu Gv Gw Gx Gy Gz G0 G8 G9 Ha Hb Hc Hd He Hf Hg Hh Hi Hj Hk Hl Hm Hn Ho Hp Hq Hr Hs Ht Hu Hv Hw Hx Hy Hz H1 H2 H3 H4 H5 H6 H7 H8 H9 Ia Ib Ic Ie If Ig Ih Ii Ij Ik Il Im In Io Ip Iq Ir Is It Iu Iv Iw Ix Iy Iz I0 I1 I2 I3 I4 I5 I6 I7 I8 I9 Ja Jb Jc Jd Je Jf Jg Jh Ji Jj Jk Jl Jm Jn Jo Jp Jq Jr Js Jt Ju Jv Jw Jx Jy Jz J0 J1 J2 J3 J4 J5 J6 J7 J8 J9 Ka Kb Kc Ke Kf Kg Kh Ki Kj Kk Kl Km Kn Ko Kp Kq Kr Ks Kt Ku Kv Kw Kx Ky Kz K0 K1 K3 K4 K5 K6 K7 K8 K9 La Lb Lc Ld Le Lf Lg Lh Li Lj Lk Ll Lm Ln Lo Lp Lq Lr Ls Lt Lu Lv Lw Lx Ly Lz L0 L1 L2 L3 L4 L5 L6 L7 L8 L9 Ma Mb Mc Md Me Mf Mg Mh Mi Mj Mk Ml Mm Mn Mo Mp Mq Mr Ms Mt Mu Mv Mw Mx My Mz M0 M1 M2 M3 M4 M5 M6 M7 M8 M9 Na Nb Nc Nd Nf Ng Nh Ni Nj Nk Nl Nm Nn No Np Nq Nr Ns Nt Nu Nv Nw Nx Ny Nz N0 N1 N3 N4 N5 N6 N7 N8 N9 Oa Ob Oc Od Oe Of Og Oh Oi Oj Ok Ol Om On Oo Op Oq Os Ot Ou Ov Ow Ox Oy Oz O0 O1 O2 O3 O4 O5 O6 O7 O8 O9 Pa Pb Pc Pd Pe Pf Pg Ph Pi Pj Pk Pl Pm Pn Po : Value} (wr : World)
    (HB : Aside0 (Below wb.heap.size wb wr))
    (hp : Aside0 (p = n + 1)) (hn : Aside0 (n ≤ 14)) (HFB : Aside0 (∀ i : Nat,i ≤ 14 → HRiseQ.allS i ≤ 1307674368000)) (HCB : Aside0 (∀ i j : Nat,i ≤ p → j ≤ p → ∀ W,Below wb.heap.size wb W → Calls Try.prog 9 #[.int .i64 (p : Int),.int .i64 (i : Int),.int .i64 (j : Int)] W fun e w' => e = .returned (.tuple #[.int .i64 (HPlain.seenC n i j : Int),.bool true]) ∧ Drawn0 W w')) (HBD : Aside0 (∀ i j : Nat,i ≤ p → j ≤ p → HRiseP.sm (HRiseQ.rowS n) i + HRiseP.sm (fun j => HPlain.seenC n i j) (j + 1) ≤ 100000000000000 ∧ HRiseP.sm (fun i => i * HRiseQ.rowS n i) i + i * HRiseP.sm (fun j => HPlain.seenC n i j) (j + 1) ≤ 100000000000000)) (HMF : Aside0 (1 ≤ D ∧ HRiseQ.allS n % D = 0 ∧ HRiseQ.allW n = HRiseQ.allS n / D * N ∧ HRiseQ.allS n ≤ 1307674368000 ∧ HRiseQ.allW n ≤ 100000000000000))
    (Q' : Exit → Act → World → Prop) (K' : Act → World → Prop)
    (hK : ∀ ⦃Pp Py Pz P0 P1 P2 P3 P4 P5 Rz R0 R1 R2 R3 R4 R5 R6 R7 R8 R9 Sb Sc Sd Se Sf Sg Sh Si Sj Sk Sl Sm Sn So Sp Sq Sr Ss St Su Sv Sw Sx Sy Sz S0 S2 S3 S4 S5 S6 S7 S8 S9 Ta Tb Tc Td Te Tf Tg Th Ti Tj Tk Tl : Value⦄ ⦃w' : World⦄,Aside0 (Below wb.heap.size wb w') → K' ⟨#[Aa,Ab,Ac,Ad,Ae,Af,Ag,.int .i64 (p : Int),Ai,Aj,Ak,Al,Am,An,Ao,Ap,Pp,Ar,As,At,Au,Av,Aw,Ax,Ay,Az,A0,A3,A4,A5,A6,A7,A8,A9,Ba,Bb,Bc,Bd,Be,Bf,Bg,Bh,Bi,Bj,Bk,Bl,Bm,Bn,Bo,Bp,Bq,Br,Bs,Bt,Bu,Bv,.int .i64 (N : Int),.int .i64 (D : Int),By,Bz,B0,B1,B2,B3,B4,B5,B6,B7,B8,B9,Py,Pz,P0,P1,P2,P3,P4,P5,Ci,Cj,Ck,Cl,Cm,Cn,Co,Cp,Cq,Cr,Cs,Ct,Cu,Cv,Cw,Cx,Cy,Cz,C0,C1,C2,C7,C8,C9,Da,Db,Dc,Dd,De,Df,Dg,Dh,Di,Dj,Dk,Dl,Dm,Dn,Do,Dp,Dq,Dr,Ds,Dt,Du,Dv,Dw,Dx,Dy,Dz,D0,D1,D2,D3,D4,D5,D6,D7,D8,D9,Ea,Eb,Ec,Ed,Ee,Ef,Eg,Eh,Ei,Ej,Ek,El,Em,En,Eo,Ep,Er,Es,Et,Eu,Ev,Ew,Ex,Ey,Ez,E0,E1,E4,E5,E6,E7,E8,E9,Fa,Fb,Fc,Fd,Fe,Ff,Fg,Fh,Fi,Fj,Fk,Fl,Fm,Fn,Fo,Fp,Fq,Fr,Fs,Ft,Fu,Fv,Fw,Fx,Fy,Fz,F0,F1,F2,F3,F4,F5,F6,F7,F8,F9,Ga,Gb,Gc,Gd,Ge,Gf,Gg,Gh,Gi,Gj,Gk,Gl,Gm,Gn,Gp,Gq,Gr,Gs,Gt,Gu,Gv,Gw,Gx,Gy,Gz,G0,G8,G9,Ha,Hb,Hc,Hd,He,Hf,Hg,Hh,Hi,Hj,Hk,Hl,Hm,Hn,Ho,Hp,Hq,Hr,Hs,Ht,Hu,Hv,Hw,Hx,Hy,Hz,H1,H2,H3,H4,H5,H6,H7,H8,H9,Ia,Ib,Ic,Ie,If,Ig,Ih,Ii,Ij,Ik,Il,Im,In,Io,Ip,Iq,Ir,Is,It,Iu,Iv,Iw,Ix,Iy,Iz,I0,I1,I2,I3,I4,I5,I6,I7,I8,I9,Ja,Jb,Jc,Jd,Je,Jf,Jg,Jh,Ji,Jj,Jk,Jl,Jm,Jn,Jo,Jp,Jq,Jr,Js,Jt,Ju,Jv,Jw,Jx,Jy,Jz,J0,J1,J2,J3,J4,J5,J6,J7,J8,J9,Ka,Kb,Kc,Ke,Kf,Kg,Kh,Ki,Kj,Kk,Kl,Km,Kn,Ko,Kp,Kq,Kr,Ks,Kt,Ku,Kv,Kw,Kx,Ky,Kz,K0,K1,K3,K4,K5,K6,K7,K8,K9,La,Lb,Lc,Ld,Le,Lf,Lg,Lh,Li,Lj,Lk,Ll,Lm,Ln,Lo,Lp,Lq,Lr,Ls,Lt,Lu,Lv,Lw,Lx,Ly,Lz,L0,L1,L2,L3,L4,L5,L6,L7,L8,L9,Ma,Mb,Mc,Md,Me,Mf,Mg,Mh,Mi,Mj,Mk,Ml,Mm,Mn,Mo,Mp,Mq,Mr,Ms,Mt,Mu,Mv,Mw,Mx,My,Mz,M0,M1,M2,M3,M4,M5,M6,M7,M8,M9,Na,Nb,Nc,Nd,Nf,Ng,Nh,Ni,Nj,Nk,Nl,Nm,Nn,No,Np,Nq,Nr,Ns,Nt,Nu,Nv,Nw,Nx,Ny,Nz,N0,N1,.bool true,Rz,R0,R1,R2,R3,R4,R5,R6,R7,R8,R9,Sb,Sc,Sd,Se,Sf,Sg,Sh,Si,Sj,Sk,Sl,Sm,Sn,So,Sp,Sq,Sr,Ss,St,Su,Sv,Sw,Sx,Sy,Sz,S0,S2,S3,S4,S5,S6,S7,S8,S9,Ta,Tb,Tc,Td,Te,Tf,Tg,Th,Ti,Tj,Tk,Tl],[]⟩ w') :
    Code.wp Try.prog (condOf Try.f7 474) (Exit.then K' Q') ⟨#[Aa,Ab,Ac,Ad,Ae,Af,Ag,.int .i64 (p : Int),Ai,Aj,Ak,Al,Am,An,Ao,Ap,Aq,Ar,As,At,Au,Av,Aw,Ax,Ay,Az,A0,A3,A4,A5,A6,A7,A8,A9,Ba,Bb,Bc,Bd,Be,Bf,Bg,Bh,Bi,Bj,Bk,Bl,Bm,Bn,Bo,Bp,Bq,Br,Bs,Bt,Bu,Bv,.int .i64 (N : Int),.int .i64 (D : Int),By,Bz,B0,B1,B2,B3,B4,B5,B6,B7,B8,B9,Ca,Cb,Cc,Cd,Ce,Cf,Cg,Ch,Ci,Cj,Ck,Cl,Cm,Cn,Co,Cp,Cq,Cr,Cs,Ct,Cu,Cv,Cw,Cx,Cy,Cz,C0,C1,C2,C7,C8,C9,Da,Db,Dc,Dd,De,Df,Dg,Dh,Di,Dj,Dk,Dl,Dm,Dn,Do,Dp,Dq,Dr,Ds,Dt,Du,Dv,Dw,Dx,Dy,Dz,D0,D1,D2,D3,D4,D5,D6,D7,D8,D9,Ea,Eb,Ec,Ed,Ee,Ef,Eg,Eh,Ei,Ej,Ek,El,Em,En,Eo,Ep,Er,Es,Et,Eu,Ev,Ew,Ex,Ey,Ez,E0,E1,E4,E5,E6,E7,E8,E9,Fa,Fb,Fc,Fd,Fe,Ff,Fg,Fh,Fi,Fj,Fk,Fl,Fm,Fn,Fo,Fp,Fq,Fr,Fs,Ft,Fu,Fv,Fw,Fx,Fy,Fz,F0,F1,F2,F3,F4,F5,F6,F7,F8,F9,Ga,Gb,Gc,Gd,Ge,Gf,Gg,Gh,Gi,Gj,Gk,Gl,Gm,Gn,Gp,Gq,Gr,Gs,Gt,Gu,Gv,Gw,Gx,Gy,Gz,G0,G8,G9,Ha,Hb,Hc,Hd,He,Hf,Hg,Hh,Hi,Hj,Hk,Hl,Hm,Hn,Ho,Hp,Hq,Hr,Hs,Ht,Hu,Hv,Hw,Hx,Hy,Hz,H1,H2,H3,H4,H5,H6,H7,H8,H9,Ia,Ib,Ic,Ie,If,Ig,Ih,Ii,Ij,Ik,Il,Im,In,Io,Ip,Iq,Ir,Is,It,Iu,Iv,Iw,Ix,Iy,Iz,I0,I1,I2,I3,I4,I5,I6,I7,I8,I9,Ja,Jb,Jc,Jd,Je,Jf,Jg,Jh,Ji,Jj,Jk,Jl,Jm,Jn,Jo,Jp,Jq,Jr,Js,Jt,Ju,Jv,Jw,Jx,Jy,Jz,J0,J1,J2,J3,J4,J5,J6,J7,J8,J9,Ka,Kb,Kc,Ke,Kf,Kg,Kh,Ki,Kj,Kk,Kl,Km,Kn,Ko,Kp,Kq,Kr,Ks,Kt,Ku,Kv,Kw,Kx,Ky,Kz,K0,K1,K3,K4,K5,K6,K7,K8,K9,La,Lb,Lc,Ld,Le,Lf,Lg,Lh,Li,Lj,Lk,Ll,Lm,Ln,Lo,Lp,Lq,Lr,Ls,Lt,Lu,Lv,Lw,Lx,Ly,Lz,L0,L1,L2,L3,L4,L5,L6,L7,L8,L9,Ma,Mb,Mc,Md,Me,Mf,Mg,Mh,Mi,Mj,Mk,Ml,Mm,Mn,Mo,Mp,Mq,Mr,Ms,Mt,Mu,Mv,Mw,Mx,My,Mz,M0,M1,M2,M3,M4,M5,M6,M7,M8,M9,Na,Nb,Nc,Nd,Nf,Ng,Nh,Ni,Nj,Nk,Nl,Nm,Nn,No,Np,Nq,Nr,Ns,Nt,Nu,Nv,Nw,Nx,Ny,Nz,N0,N1,.bool true,N3,N4,N5,N6,N7,N8,N9,Oa,Ob,Oc,Od,Oe,Of,Og,Oh,Oi,Oj,Ok,Ol,Om,On,Oo,Op,Oq,Os,Ot,Ou,Ov,Ow,Ox,Oy,Oz,O0,O1,O2,O3,O4,O5,O6,O7,O8,O9,Pa,Pb,Pc,Pd,Pe,Pf,Pg,Ph,Pi,Pj,Pk,Pl,Pm,Pn,Po],[]⟩ wr := by
  conv => arg 2; whnf
  have HKK := Aside0.mk hK
  clear hK
  go_upto_region 60 with fail
  try simp only [List.append]
  go_cut [70,71,72] from 475 to 475 (fun s1 s2 s3 wx => s1 = .int .i64 1 ∧ s2 = .int .i64 0 ∧ s3 = .int .i64 0 ∧ Aside0 (Below wb.heap.size wb wx))
  case first =>
    go_wp2_with fail
    go_meet
    case rel => exact ⟨rfl,rfl,rfl,⟨(by repeat first|(with_reducible first|exact HB.out|apply below_alloc|apply pw_below_drewN|apply below_drew1)|exact HB.out)⟩⟩
  case rest =>
  clear HB
  obtain ⟨rfl,rfl,rfl,HB⟩ := hcut
  refine (by assumption : ∀ (a : Act) (w : World),Code.wp _ _ _ a w → _) _ _ ?_
  with_reducible refine wp_seq_k (fun K2 hk2 => ?_)
  refine partF p n wb _ ⟨(by repeat first|(with_reducible first|exact HB.out|apply below_alloc|apply pw_below_drewN|apply below_drew1)|exact HB.out)⟩ hp.out hn.out HFB _ _ ?_
  intro Py P1 Rz R0 R1 R2 R3 R4 R5 R6 w21 h70 hb
  subst h70; clear HB; have HB := hb; clear hb
  refine hk2 _ _ ?_
  clear hk2 K2
  with_reducible refine wp_seq_k (fun K2 hk2 => ?_)
  refine partS p n wb _ ⟨(by repeat first|(with_reducible first|exact HB.out|apply below_alloc|apply pw_below_drewN|apply below_drew1)|exact HB.out)⟩ hp.out hn.out HCB HBD _ _ ?_
  intro Pp Pz P0 P2 P3 P4 P5 R7 R8 R9 Sb Sc Sd Se Sf Sg Sh Si Sj Sk Sl Sm Sn So Sp Sq Sr Ss St Su Sv Sw Sx Sy w22 h71 h72 hb
  subst h71 h72; clear HB; have HB := hb; clear hb
  refine hk2 _ _ ?_
  clear hk2 K2
  have hmf := HMF.out
  generalize HRiseQ.allS n = Sa at *
  generalize HRiseQ.allW n = Wa at *
  obtain ⟨m1,m2,m3,m4,m5⟩ := hmf
  have y1 : (Sa : Int) % (D : Int) = 0 := by rw [← Int.natCast_emod,m2]; rfl
  have y2 : Int.tmod (Sa : Int) (D : Int) = 0 := by rw [Int.tmod_eq_emod_of_nonneg (by omega)]; exact y1
  have y3 : (Sa : Int) / (D : Int) = ((Sa / D : Nat) : Int) := by rw [Int.natCast_ediv]
  have y4 : Int.tdiv (Sa : Int) (D : Int) = ((Sa / D : Nat) : Int) := by rw [Int.tdiv_eq_ediv_of_nonneg (by omega)]; exact y3
  have hq := Nat.div_le_self Sa D
  generalize Sa / D = Qa at *
  have y11 : wrap64 (Qa : Int) = (Qa : Int) := by unfold wrap64; omega
  have y5 : IntKind.i64.wrap ((Qa : Int) * (N : Int)) = (Wa : Int) := by rw [m3]; exact HWR.mul_w Qa N (by omega)
  have y12 : wrap64 ((Qa : Int) * (N : Int)) = (Wa : Int) := (i64_w _).symm.trans y5
  have y13 : ((Wa : Int) != wrap64 (wrap64 (Qa : Int) * (N : Int))) = false := by rw [y11,y12]; exact bne_self_eq_false _
  have y6 : decide ((D : Int) < 1) = false := by simp; omega
  have y7 : decide (D < 1) = false := by simp; omega
  have y8 : ((D : Int) == 0) = false := beq_eq_false_iff_ne.mpr (by omega)
  have y9 : (0 : Int) ≤ (Sa : Int) := by omega
  have y10 : (0 : Int) < (D : Int) := by omega
  have HM := Aside0.mk m3
  clear m1 m2 m3 m4 m5 HMF hq
  go_wp2_with fail
  exact HKK.out ⟨(by repeat first|(with_reducible first|exact HB.out|apply below_alloc|apply pw_below_drewN|apply below_drew1)|exact HB.out)⟩
theorem partM_no (wb : World) {Aa Ab Ac Ad Ae Af Ag Ah Ai Aj Ak Al Am An Ao Ap Aq Ar As At Au Av Aw Ax Ay Az A0 A3 A4 A5 A6 A7 A8 A9 Ba Bb Bc Bd Be Bf Bg Bh Bi Bj Bk Bl Bm Bn Bo Bp Bq Br Bs Bt Bu Bv Bw Bx By Bz B0 B1 B2 B3 B4 B5 B6 B7 B8 B9 Ca Cb Cc Cd Ce Cf Cg Ch Ci Cj Ck Cl Cm Cn Co Cp Cq Cr Cs Ct Cu Cv Cw Cx Cy Cz C0 C1 C2 C7 C8 C9 Da Db Dc Dd De Df Dg Dh Di Dj Dk Dl Dm Dn Do Dp Dq Dr Ds Dt Du Dv Dw Dx Dy Dz D0 D1 D2 D3 D4 D5 D6 D7 D8 D9 Ea Eb Ec Ed Ee Ef Eg Eh Ei Ej Ek El Em En Eo Ep Er Es Et Eu Ev Ew Ex Ey Ez E0 E1 E4 E5 E6 E7 E8 E9 Fa Fb Fc Fd Fe Ff Fg Fh Fi Fj Fk Fl Fm Fn Fo Fp Fq Fr Fs Ft Fu Fv Fw Fx Fy Fz F0 F1 F2 F3 F4 F5 F6 F7 F8 F9 Ga Gb Gc Gd Ge Gf Gg Gh Gi Gj Gk Gl Gm Gn Gp Gq Gr Gs Gt Gu Gv Gw Gx Gy Gz G0 G8 G9 Ha Hb Hc Hd He Hf Hg Hh Hi Hj Hk Hl Hm Hn Ho Hp Hq Hr Hs Ht Hu Hv Hw Hx Hy Hz H1 H2 H3 H4 H5 H6 H7 H8 H9 Ia Ib Ic Ie If Ig Ih Ii Ij Ik Il Im In Io Ip Iq Ir Is It Iu Iv Iw Ix Iy Iz I0 I1 I2 I3 I4 I5 I6 I7 I8 I9 Ja Jb Jc Jd Je Jf Jg Jh Ji Jj Jk Jl Jm Jn Jo Jp Jq Jr Js Jt Ju Jv Jw Jx Jy Jz J0 J1 J2 J3 J4 J5 J6 J7 J8 J9 Ka Kb Kc Ke Kf Kg Kh Ki Kj Kk Kl Km Kn Ko Kp Kq Kr Ks Kt Ku Kv Kw Kx Ky Kz K0 K1 K3 K4 K5 K6 K7 K8 K9 La Lb Lc Ld Le Lf Lg Lh Li Lj Lk Ll Lm Ln Lo Lp Lq Lr Ls Lt Lu Lv Lw Lx Ly Lz L0 L1 L2 L3 L4 L5 L6 L7 L8 L9 Ma Mb Mc Md Me Mf Mg Mh Mi Mj Mk Ml Mm Mn Mo Mp Mq Mr Ms Mt Mu Mv Mw Mx My Mz M0 M1 M2 M3 M4 M5 M6 M7 M8 M9 Na Nb Nc Nd Nf Ng Nh Ni Nj Nk Nl Nm Nn No Np Nq Nr Ns Nt Nu Nv Nw Nx Ny Nz N0 N1 N3 N4 N5 N6 N7 N8 N9 Oa Ob Oc Od Oe Of Og Oh Oi Oj Ok Ol Om On Oo Op Oq Os Ot Ou Ov Ow Ox Oy Oz O0 O1 O2 O3 O4 O5 O6 O7 O8 O9 Pa Pb Pc Pd Pe Pf Pg Ph Pi Pj Pk Pl Pm Pn Po : Value} (wr : World)
    (HB : Aside0 (Below wb.heap.size wb wr))
    (Q' : Exit → Act → World → Prop) (K' : Act → World → Prop)
    (hK : ∀ ⦃Pp Py Pz P0 P1 P2 P3 P4 P5 Rz R0 R1 R2 R3 R4 R5 R6 R7 R8 R9 Sb Sc Sd Se Sf Sg Sh Si Sj Sk Sl Sm Sn So Sp Sq Sr Ss St Su Sv Sw Sx Sy Sz S0 S2 S3 S4 S5 S6 S7 S8 S9 Ta Tb Tc Td Te Tf Tg Th Ti Tj Tk Tl : Value⦄ ⦃w' : World⦄,Aside0 (Below wb.heap.size wb w') → K' ⟨#[Aa,Ab,Ac,Ad,Ae,Af,Ag,Ah,Ai,Aj,Ak,Al,Am,An,Ao,Ap,Pp,Ar,As,At,Au,Av,Aw,Ax,Ay,Az,A0,A3,A4,A5,A6,A7,A8,A9,Ba,Bb,Bc,Bd,Be,Bf,Bg,Bh,Bi,Bj,Bk,Bl,Bm,Bn,Bo,Bp,Bq,Br,Bs,Bt,Bu,Bv,Bw,Bx,By,Bz,B0,B1,B2,B3,B4,B5,B6,B7,B8,B9,Py,Pz,P0,P1,P2,P3,P4,P5,Ci,Cj,Ck,Cl,Cm,Cn,Co,Cp,Cq,Cr,Cs,Ct,Cu,Cv,Cw,Cx,Cy,Cz,C0,C1,C2,C7,C8,C9,Da,Db,Dc,Dd,De,Df,Dg,Dh,Di,Dj,Dk,Dl,Dm,Dn,Do,Dp,Dq,Dr,Ds,Dt,Du,Dv,Dw,Dx,Dy,Dz,D0,D1,D2,D3,D4,D5,D6,D7,D8,D9,Ea,Eb,Ec,Ed,Ee,Ef,Eg,Eh,Ei,Ej,Ek,El,Em,En,Eo,Ep,Er,Es,Et,Eu,Ev,Ew,Ex,Ey,Ez,E0,E1,E4,E5,E6,E7,E8,E9,Fa,Fb,Fc,Fd,Fe,Ff,Fg,Fh,Fi,Fj,Fk,Fl,Fm,Fn,Fo,Fp,Fq,Fr,Fs,Ft,Fu,Fv,Fw,Fx,Fy,Fz,F0,F1,F2,F3,F4,F5,F6,F7,F8,F9,Ga,Gb,Gc,Gd,Ge,Gf,Gg,Gh,Gi,Gj,Gk,Gl,Gm,Gn,Gp,Gq,Gr,Gs,Gt,Gu,Gv,Gw,Gx,Gy,Gz,G0,G8,G9,Ha,Hb,Hc,Hd,He,Hf,Hg,Hh,Hi,Hj,Hk,Hl,Hm,Hn,Ho,Hp,Hq,Hr,Hs,Ht,Hu,Hv,Hw,Hx,Hy,Hz,H1,H2,H3,H4,H5,H6,H7,H8,H9,Ia,Ib,Ic,Ie,If,Ig,Ih,Ii,Ij,Ik,Il,Im,In,Io,Ip,Iq,Ir,Is,It,Iu,Iv,Iw,Ix,Iy,Iz,I0,I1,I2,I3,I4,I5,I6,I7,I8,I9,Ja,Jb,Jc,Jd,Je,Jf,Jg,Jh,Ji,Jj,Jk,Jl,Jm,Jn,Jo,Jp,Jq,Jr,Js,Jt,Ju,Jv,Jw,Jx,Jy,Jz,J0,J1,J2,J3,J4,J5,J6,J7,J8,J9,Ka,Kb,Kc,Ke,Kf,Kg,Kh,Ki,Kj,Kk,Kl,Km,Kn,Ko,Kp,Kq,Kr,Ks,Kt,Ku,Kv,Kw,Kx,Ky,Kz,K0,K1,K3,K4,K5,K6,K7,K8,K9,La,Lb,Lc,Ld,Le,Lf,Lg,Lh,Li,Lj,Lk,Ll,Lm,Ln,Lo,Lp,Lq,Lr,Ls,Lt,Lu,Lv,Lw,Lx,Ly,Lz,L0,L1,L2,L3,L4,L5,L6,L7,L8,L9,Ma,Mb,Mc,Md,Me,Mf,Mg,Mh,Mi,Mj,Mk,Ml,Mm,Mn,Mo,Mp,Mq,Mr,Ms,Mt,Mu,Mv,Mw,Mx,My,Mz,M0,M1,M2,M3,M4,M5,M6,M7,M8,M9,Na,Nb,Nc,Nd,Nf,Ng,Nh,Ni,Nj,Nk,Nl,Nm,Nn,No,Np,Nq,Nr,Ns,Nt,Nu,Nv,Nw,Nx,Ny,Nz,N0,N1,.bool false,Rz,R0,R1,R2,R3,R4,R5,R6,R7,R8,R9,Sb,Sc,Sd,Se,Sf,Sg,Sh,Si,Sj,Sk,Sl,Sm,Sn,So,Sp,Sq,Sr,Ss,St,Su,Sv,Sw,Sx,Sy,Sz,S0,S2,S3,S4,S5,S6,S7,S8,S9,Ta,Tb,Tc,Td,Te,Tf,Tg,Th,Ti,Tj,Tk,Tl],[]⟩ w') :
    Code.wp Try.prog (condOf Try.f7 474) (Exit.then K' Q') ⟨#[Aa,Ab,Ac,Ad,Ae,Af,Ag,Ah,Ai,Aj,Ak,Al,Am,An,Ao,Ap,Aq,Ar,As,At,Au,Av,Aw,Ax,Ay,Az,A0,A3,A4,A5,A6,A7,A8,A9,Ba,Bb,Bc,Bd,Be,Bf,Bg,Bh,Bi,Bj,Bk,Bl,Bm,Bn,Bo,Bp,Bq,Br,Bs,Bt,Bu,Bv,Bw,Bx,By,Bz,B0,B1,B2,B3,B4,B5,B6,B7,B8,B9,Ca,Cb,Cc,Cd,Ce,Cf,Cg,Ch,Ci,Cj,Ck,Cl,Cm,Cn,Co,Cp,Cq,Cr,Cs,Ct,Cu,Cv,Cw,Cx,Cy,Cz,C0,C1,C2,C7,C8,C9,Da,Db,Dc,Dd,De,Df,Dg,Dh,Di,Dj,Dk,Dl,Dm,Dn,Do,Dp,Dq,Dr,Ds,Dt,Du,Dv,Dw,Dx,Dy,Dz,D0,D1,D2,D3,D4,D5,D6,D7,D8,D9,Ea,Eb,Ec,Ed,Ee,Ef,Eg,Eh,Ei,Ej,Ek,El,Em,En,Eo,Ep,Er,Es,Et,Eu,Ev,Ew,Ex,Ey,Ez,E0,E1,E4,E5,E6,E7,E8,E9,Fa,Fb,Fc,Fd,Fe,Ff,Fg,Fh,Fi,Fj,Fk,Fl,Fm,Fn,Fo,Fp,Fq,Fr,Fs,Ft,Fu,Fv,Fw,Fx,Fy,Fz,F0,F1,F2,F3,F4,F5,F6,F7,F8,F9,Ga,Gb,Gc,Gd,Ge,Gf,Gg,Gh,Gi,Gj,Gk,Gl,Gm,Gn,Gp,Gq,Gr,Gs,Gt,Gu,Gv,Gw,Gx,Gy,Gz,G0,G8,G9,Ha,Hb,Hc,Hd,He,Hf,Hg,Hh,Hi,Hj,Hk,Hl,Hm,Hn,Ho,Hp,Hq,Hr,Hs,Ht,Hu,Hv,Hw,Hx,Hy,Hz,H1,H2,H3,H4,H5,H6,H7,H8,H9,Ia,Ib,Ic,Ie,If,Ig,Ih,Ii,Ij,Ik,Il,Im,In,Io,Ip,Iq,Ir,Is,It,Iu,Iv,Iw,Ix,Iy,Iz,I0,I1,I2,I3,I4,I5,I6,I7,I8,I9,Ja,Jb,Jc,Jd,Je,Jf,Jg,Jh,Ji,Jj,Jk,Jl,Jm,Jn,Jo,Jp,Jq,Jr,Js,Jt,Ju,Jv,Jw,Jx,Jy,Jz,J0,J1,J2,J3,J4,J5,J6,J7,J8,J9,Ka,Kb,Kc,Ke,Kf,Kg,Kh,Ki,Kj,Kk,Kl,Km,Kn,Ko,Kp,Kq,Kr,Ks,Kt,Ku,Kv,Kw,Kx,Ky,Kz,K0,K1,K3,K4,K5,K6,K7,K8,K9,La,Lb,Lc,Ld,Le,Lf,Lg,Lh,Li,Lj,Lk,Ll,Lm,Ln,Lo,Lp,Lq,Lr,Ls,Lt,Lu,Lv,Lw,Lx,Ly,Lz,L0,L1,L2,L3,L4,L5,L6,L7,L8,L9,Ma,Mb,Mc,Md,Me,Mf,Mg,Mh,Mi,Mj,Mk,Ml,Mm,Mn,Mo,Mp,Mq,Mr,Ms,Mt,Mu,Mv,Mw,Mx,My,Mz,M0,M1,M2,M3,M4,M5,M6,M7,M8,M9,Na,Nb,Nc,Nd,Nf,Ng,Nh,Ni,Nj,Nk,Nl,Nm,Nn,No,Np,Nq,Nr,Ns,Nt,Nu,Nv,Nw,Nx,Ny,Nz,N0,N1,.bool false,N3,N4,N5,N6,N7,N8,N9,Oa,Ob,Oc,Od,Oe,Of,Og,Oh,Oi,Oj,Ok,Ol,Om,On,Oo,Op,Oq,Os,Ot,Ou,Ov,Ow,Ox,Oy,Oz,O0,O1,O2,O3,O4,O5,O6,O7,O8,O9,Pa,Pb,Pc,Pd,Pe,Pf,Pg,Ph,Pi,Pj,Pk,Pl,Pm,Pn,Po],[]⟩ wr := by
  conv => arg 2; whnf
  have HKK := Aside0.mk hK
  clear hK
  go_wp2_with fail
  exact HKK.out ⟨(by repeat first|(with_reducible first|exact HB.out|apply below_alloc|apply pw_below_drewN|apply below_drew1)|exact HB.out)⟩
end Go.Proofs.Ytleacijhpkogpac.HBigT
/- The law on who rises (FnHeightsRiseOfAll),a part of its walk: counts,first orders,means. -/
namespace Go.Proofs.Ytleacijhpkogpac.HBigT
open Go.RowKit YtleacijhpkogpacW.PrintWords YtleacijhpkogpacW.PrintLast YtleacijhpkogpacW.PrintMore Part HImpl

theorem tail (fi : List Int) (ct nu de m lf bh k x y pp : Int) (q1 q2 q3 : Bool) (w0 w : World) (HB0 : Aside0 (Below w0.heap.size w0 w)) {Aa Ai Aj Ak Al Am An Ao Ap Aq Ar As At Au Av Aw Ax Ay Az A0 A3 A4 A5 A6 A7 A8 A9 Ba Bb Bc Bd Be Bf Bg Bh Bi Bj Bk Bl Bm Bn Bo Bp Bq Br Bs Bt Bu Bv Bw Bx By Bz B0 B1 B2 B3 B4 B5 B6 B7 B8 B9 Ca Cb Cc Cd Ce Cf Cg Ch Ci Cj Ck Cl Cm Cn Co Cp Cq Cr Cs Ct Cu Cv Cw Cx Cy Cz C0 C1 C2 C7 C8 C9 Da Db Dc Dd De Df Dg Dh Di Dj Dk Dl Dm Dn Do Dp Dq Dr Ds Dt Du Dv Dw Dx Dy Dz D0 D1 D2 D3 D4 D5 D6 D7 D8 D9 Ea Eb Ec Ed Ee Ef Eg Eh Ei Ej Ek El Em En Eo Ep Er Es Et Eu Ev Ew Ex Ey Ez E0 E1 E4 E5 E6 E7 E8 E9 Fa Fb Fc Fd Fe Ff Fg Fh Fi Fj Fk Fl Fm Fn Fo Fp Fq Fr Fs Ft Fu Fv Fw Fx Fy Fz F0 F1 F2 F3 F4 F5 F6 F7 F8 F9 Ga Gb Gc Gd Ge Gf Gg Gh Gi Gj Gk Gl Gm Gn Gp Gq Gr Gs Gt Gu Gv Gw Gx Gy Gz G0 G8 G9 Ha Hb Hc Hd He Hf Hg Hh Hi Hj Hk Hl Hm Hn Ho Hp Hq Hr Hs Ht Hu Hv Hw Hx Hy Hz H1 H2 H3 H4 H5 H6 H7 H8 H9 Ia Ib Ic Ie If Ig Ih Ii Ij Ik Il Im In Io Ip Iq Ir Is It Iu Iv Iw Ix Iy Iz I0 I1 I2 I3 I4 I5 I6 I7 I8 I9 Ja Jb Jc Jd Je Jf Jg Jh Ji Jj Jk Jl Jm Jn Jo Jp Jq Jr Js Jt Ju Jv Jw Jx Jy Jz J0 J1 J2 J3 J4 J5 J6 J7 J8 J9 Ka Kb Kc Ke Kf Kg Kh Ki Kj Kk Kl Km Kn Ko Kp Kq Kr Ks Kt Ku Kv Kw Kx Ky Kz K0 K1 K3 K4 K5 K6 K7 K8 K9 La Lb Lc Ld Le Lf Lg Lh Li Lj Lk Ll Lm Ln Lo Lp Lq Lr Ls Lt Lu Lv Lw Lx Ly Lz L0 L1 L2 L3 L4 L5 L6 L7 L8 L9 Ma Mb Mc Md Me Mf Mg Mh Mi Mj Mk Ml Mm Mn Mo Mp Mq Mr Ms Mt Mu Mv Mw Mx My Mz M0 M1 M2 M3 M4 M5 M6 M7 M8 M9 Na Nb Nc Nd Nf Ng Nh Ni Nj Nk Nl Nm Nn No Np Nq Nr Ns Nt Nu Nv Nw Nx Ny Nz N0 N1 N2 N3 N4 N5 N6 N7 N8 N9 Oa Ob Oc Od Oe Of Og Oh Oi Oj Ok Ol Om On Oo Op Oq Os Ot Ou Ov Ow Ox Oy Oz O0 O1 O2 O3 O4 O5 O6 O7 O8 O9 Pa Pb Pc Pd Pe Pf Pg Ph Pi Pj Pk Pl Pm Pn Po : Value} (wr : World)
    (HB : Aside0 (Below w.heap.size w wr))
    (hiCB : ∀ W,Below w.heap.size w W → Calls Try.prog 9 #[.int .i64 m,.int .i64 lf,.int .i64 bh] W fun e w' => e = .returned (.tuple #[.int .i64 ct,.bool q1]) ∧ Below W.heap.size W w')
    (hsCB : ∀ W,Below w.heap.size w W → Calls Try.prog 8 #[.int .i64 m,.int .i64 lf,.int .i64 bh] W fun e w' => e = .returned (.tuple #[.int .i64 ct,.bool q1]) ∧ Below W.heap.size W w')
    (hiFB : ∀ W,Below w.heap.size w W → Calls Try.prog 19 #[.int .i64 k,.int .i64 x,.int .i64 y] W fun e w' => ∃ v,e = .returned (.tuple #[v,.bool q2]) ∧ Kd.R (Kd.int .i64) 3 w' W.heap.size (fun _ => True) v fi ∧ Below W.heap.size W w')
    (hsFB : ∀ W,Below w.heap.size w W → Calls Try.prog 18 #[.int .i64 k,.int .i64 x,.int .i64 y] W fun e w' => ∃ v,e = .returned (.tuple #[v,.bool q2]) ∧ Kd.R (Kd.int .i64) 3 w' W.heap.size (fun _ => True) v fi ∧ Below W.heap.size W w')
    (hiMS : ∀ W,Below w.heap.size w W → Calls Try.prog 52 #[.int .i64 pp] W fun e w' => e = .returned (.tuple #[.int .i64 nu,.int .i64 de,.bool q3]) ∧ Drawn0 W w')
    (hsMS : ∀ W,Below w.heap.size w W → Calls Try.prog 53 #[.int .i64 pp] W fun e w' => e = .returned (.tuple #[.int .i64 nu,.int .i64 de,.bool q3]) ∧ Drawn0 W w')
    (hNB : q1 = true → ∀ W,Below w.heap.size w W → Calls Try.prog 9 #[.int .i64 m,.int .i64 bh,.int .i64 lf] W fun e w' => e = .returned (.tuple #[.int .i64 ct,.bool true]) ∧ Drawn0 W w')
    (hEB : q2 = true → ∃ (sl sr : List Int) (mn : Int),k = (fi.length : Int) ∧ x = (sl.length : Int) ∧ y = (sr.length : Int) ∧ 1 ≤ mn ∧ (∀ (A : Option Addr) (c : Nat) (W : World),Kd.C (Kd.int .i64) W A fi.length fi → fi.length ≤ c → Calls Try.prog 21 #[.slice A fi.length c] W fun e w' => ∃ v,e = .returned (.tuple #[v,.bool true]) ∧ Kd.R (Kd.int .i64) 3 w' W.heap.size (fun _ => True) v sl ∧ Below W.heap.size W w') ∧ (∀ (A : Option Addr) (c : Nat) (W : World),Kd.C (Kd.int .i64) W A fi.length fi → fi.length ≤ c → Calls Try.prog 22 #[.slice A fi.length c] W fun e w' => ∃ v,e = .returned (.tuple #[v,.bool true]) ∧ Kd.R (Kd.int .i64) 3 w' W.heap.size (fun _ => True) v sr ∧ Below W.heap.size W w') ∧ (∀ W,Below w.heap.size w W → Calls Try.prog 9 #[.int .i64 (fi.length : Int),.int .i64 (sl.length : Int),.int .i64 (sr.length : Int)] W fun e w' => e = .returned (.tuple #[.int .i64 mn,.bool true]) ∧ Drawn0 W w'))
    (hMB : q3 = true → ∃ p n N D : Nat,pp = (p : Int) ∧ nu = (N : Int) ∧ de = (D : Int) ∧ p = n + 1 ∧ n ≤ 14 ∧ (∀ i : Nat,i ≤ 14 → HRiseQ.allS i ≤ 1307674368000) ∧ (∀ i j : Nat,i ≤ p → j ≤ p → ∀ W,Below w.heap.size w W → Calls Try.prog 9 #[.int .i64 (p : Int),.int .i64 (i : Int),.int .i64 (j : Int)] W fun e w' => e = .returned (.tuple #[.int .i64 (HPlain.seenC n i j : Int),.bool true]) ∧ Drawn0 W w') ∧ (∀ i j : Nat,i ≤ p → j ≤ p → HRiseP.sm (HRiseQ.rowS n) i + HRiseP.sm (fun j => HPlain.seenC n i j) (j + 1) ≤ 100000000000000 ∧ HRiseP.sm (fun i => i * HRiseQ.rowS n i) i + i * HRiseP.sm (fun j => HPlain.seenC n i j) (j + 1) ≤ 100000000000000) ∧ (1 ≤ D ∧ HRiseQ.allS n % D = 0 ∧ HRiseQ.allW n = HRiseQ.allS n / D * N ∧ HRiseQ.allS n ≤ 1307674368000 ∧ HRiseQ.allW n ≤ 100000000000000))
    (hFL : fi.length ≤ 1048576)
    : Code.wp Try.prog (seqOf Try.f7 41) (bodyPost Try.prog Try.f7 fun e w' => e = .returned (.bool true) ∧ Below w0.heap.size w0 w') ⟨#[Aa,.int .i64 m,.int .i64 lf,.int .i64 bh,.int .i64 k,.int .i64 x,.int .i64 y,.int .i64 pp,Ai,Aj,Ak,Al,Am,An,Ao,Ap,Aq,Ar,As,At,Au,Av,Aw,Ax,Ay,Az,A0,A3,A4,A5,A6,A7,A8,A9,Ba,Bb,Bc,Bd,Be,Bf,Bg,Bh,Bi,Bj,Bk,Bl,Bm,Bn,Bo,Bp,Bq,Br,Bs,Bt,Bu,Bv,Bw,Bx,By,Bz,B0,B1,B2,B3,B4,B5,B6,B7,B8,B9,Ca,Cb,Cc,Cd,Ce,Cf,Cg,Ch,Ci,Cj,Ck,Cl,Cm,Cn,Co,Cp,Cq,Cr,Cs,Ct,Cu,Cv,Cw,Cx,Cy,Cz,C0,C1,C2,C7,C8,C9,Da,Db,Dc,Dd,De,Df,Dg,Dh,Di,Dj,Dk,Dl,Dm,Dn,Do,Dp,Dq,Dr,Ds,Dt,Du,Dv,Dw,Dx,Dy,Dz,D0,D1,D2,D3,D4,D5,D6,D7,D8,D9,Ea,Eb,Ec,Ed,Ee,Ef,Eg,Eh,Ei,Ej,Ek,El,Em,En,Eo,Ep,Er,Es,Et,Eu,Ev,Ew,Ex,Ey,Ez,E0,E1,E4,E5,E6,E7,E8,E9,Fa,Fb,Fc,Fd,Fe,Ff,Fg,Fh,Fi,Fj,Fk,Fl,Fm,Fn,Fo,Fp,Fq,Fr,Fs,Ft,Fu,Fv,Fw,Fx,Fy,Fz,F0,F1,F2,F3,F4,F5,F6,F7,F8,F9,Ga,Gb,Gc,Gd,Ge,Gf,Gg,Gh,Gi,Gj,Gk,Gl,Gm,Gn,Gp,Gq,Gr,Gs,Gt,Gu,Gv,Gw,Gx,Gy,Gz,G0,G8,G9,Ha,Hb,Hc,Hd,He,Hf,Hg,Hh,Hi,Hj,Hk,Hl,Hm,Hn,Ho,Hp,Hq,Hr,Hs,Ht,Hu,Hv,Hw,Hx,Hy,Hz,H1,H2,H3,H4,H5,H6,H7,H8,H9,Ia,Ib,Ic,Ie,If,Ig,Ih,Ii,Ij,Ik,Il,Im,In,Io,Ip,Iq,Ir,Is,It,Iu,Iv,Iw,Ix,Iy,Iz,I0,I1,I2,I3,I4,I5,I6,I7,I8,I9,Ja,Jb,Jc,Jd,Je,Jf,Jg,Jh,Ji,Jj,Jk,Jl,Jm,Jn,Jo,Jp,Jq,Jr,Js,Jt,Ju,Jv,Jw,Jx,Jy,Jz,J0,J1,J2,J3,J4,J5,J6,J7,J8,J9,Ka,Kb,Kc,Ke,Kf,Kg,Kh,Ki,Kj,Kk,Kl,Km,Kn,Ko,Kp,Kq,Kr,Ks,Kt,Ku,Kv,Kw,Kx,Ky,Kz,K0,K1,K3,K4,K5,K6,K7,K8,K9,La,Lb,Lc,Ld,Le,Lf,Lg,Lh,Li,Lj,Lk,Ll,Lm,Ln,Lo,Lp,Lq,Lr,Ls,Lt,Lu,Lv,Lw,Lx,Ly,Lz,L0,L1,L2,L3,L4,L5,L6,L7,L8,L9,Ma,Mb,Mc,Md,Me,Mf,Mg,Mh,Mi,Mj,Mk,Ml,Mm,Mn,Mo,Mp,Mq,Mr,Ms,Mt,Mu,Mv,Mw,Mx,My,Mz,M0,M1,M2,M3,M4,M5,M6,M7,M8,M9,Na,Nb,Nc,Nd,Nf,Ng,Nh,Ni,Nj,Nk,Nl,Nm,Nn,No,Np,Nq,Nr,Ns,Nt,Nu,Nv,Nw,Nx,Ny,Nz,N0,N1,N2,N3,N4,N5,N6,N7,N8,N9,Oa,Ob,Oc,Od,Oe,Of,Og,Oh,Oi,Oj,Ok,Ol,Om,On,Oo,Op,Oq,Os,Ot,Ou,Ov,Ow,Ox,Oy,Oz,O0,O1,O2,O3,O4,O5,O6,O7,O8,O9,Pa,Pb,Pc,Pd,Pe,Pf,Pg,Ph,Pi,Pj,Pk,Pl,Pm,Pn,Po],[]⟩ wr := by
  conv => arg 2; whnf
  have iCB := Aside0.mk hiCB
  have sCB := Aside0.mk hsCB
  have iFB := Aside0.mk hiFB
  have sFB := Aside0.mk hsFB
  have iMS := Aside0.mk hiMS
  have sMS := Aside0.mk hsMS
  have NB := Aside0.mk hNB
  have EB := Aside0.mk hEB
  have MB := Aside0.mk hMB
  have FL := Aside0.mk hFL
  clear hiCB hsCB hiFB hsFB hiMS hsMS hNB hEB hMB hFL
  have HBW := Aside0.mk (Below.refl w.heap.size w)
  go_wp2_with (first | (go_at_call 9; with_reducible refine (iCB.out _ (below_step HBW.out (by repeat first|(with_reducible first|exact HB.out|apply below_alloc|apply pw_below_drewN|apply below_drew1)|exact HB.out))).mono ?_; rintro e w1 ⟨rfl,hb⟩; have HBn := Aside0.mk (below_step (by repeat first|(with_reducible first|exact HB.out|apply below_alloc|apply pw_below_drewN|apply below_drew1)|exact HB.out) hb); clear hb HB; have HB := HBn; clear HBn; try dsimp only) | (go_at_call 8; with_reducible refine (sCB.out _ (below_step HBW.out (by repeat first|(with_reducible first|exact HB.out|apply below_alloc|apply pw_below_drewN|apply below_drew1)|exact HB.out))).mono ?_; rintro e w2 ⟨rfl,hb⟩; have HBn := Aside0.mk (below_step (by repeat first|(with_reducible first|exact HB.out|apply below_alloc|apply pw_below_drewN|apply below_drew1)|exact HB.out) hb); clear hb HB; have HB := HBn; clear HBn; try dsimp only))
  refine (iFB.out _ (below_step HBW.out (by repeat first|(with_reducible first|exact HB.out|apply below_alloc|apply pw_below_drewN|apply below_drew1)|exact HB.out))).mono ?_
  rintro e wd11 ⟨vd11,rfl,ho,hb⟩
  obtain ⟨A11,k11,rfl,hlc,hC⟩ := Kd.R_reads ho
  have HC11 := Aside0.mk hC
  have HL11 := Aside0.mk hlc
  have HW11 := Aside0.mk hb
  have HBn := Aside0.mk (below_step (by repeat first|(with_reducible first|exact HB.out|apply below_alloc|apply pw_below_drewN|apply below_drew1)|exact HB.out) hb); clear hb HB; have HB := HBn; clear HBn; try dsimp only
  clear ho hlc hC
  go_wp2_with fail
  refine (sFB.out _ (below_step HBW.out (by repeat first|(with_reducible first|exact HB.out|apply below_alloc|apply pw_below_drewN|apply below_drew1)|exact HB.out))).mono ?_
  rintro e wd12 ⟨vd12,rfl,ho,hb⟩
  obtain ⟨A12,k12,rfl,hlc,hC⟩ := Kd.R_reads ho
  have HC12 := Aside0.mk hC
  have HL12 := Aside0.mk hlc
  have HW12 := Aside0.mk hb
  have HBn := Aside0.mk (below_step (by repeat first|(with_reducible first|exact HB.out|apply below_alloc|apply pw_below_drewN|apply below_drew1)|exact HB.out) hb); clear hb HB; have HB := HBn; clear HBn; try dsimp only
  clear ho hlc hC
  have HBWn := HB
  have HD11 := Aside0.mk (Kd.C_below HC11.out HW12.out)
  have HD12 := HC12
  clear HBW HB HC11 HC12 HW11 HW12
  have HBW := HBWn
  clear HBWn
  have HB := Aside0.mk (Below.refl wd12.heap.size wd12)
  have S1 := Aside0.mk (fun W (hb : Below wd12.heap.size wd12 W) => HLawV.same_yes A11 k11 A12 k12 fi FL.out W (Kd.C_below HD11.out hb) HL11.out (Kd.C_below HD12.out hb) HL12.out)
  go_upto_region 47 with (first | (go_at_call 52; with_reducible refine (iMS.out _ (below_step HBW.out (by repeat first|(with_reducible first|exact HB.out|apply below_alloc|apply pw_below_drewN|apply below_drew1)|exact HB.out))).mono ?_; rintro e w5 ⟨rfl,⟨nd5,rfl⟩⟩; try dsimp only) | (go_at_call 53; with_reducible refine (sMS.out _ (below_step HBW.out (by repeat first|(with_reducible first|exact HB.out|apply below_alloc|apply pw_below_drewN|apply below_drew1)|exact HB.out))).mono ?_; rintro e w6 ⟨rfl,⟨nd6,rfl⟩⟩; try dsimp only))
  refine part47 fi ct nu de q1 q2 q3 A11 A12 k11 k12 wd12 _ ⟨(by repeat first|(with_reducible first|exact HB.out|apply below_alloc|apply pw_below_drewN|apply below_drew1)|exact HB.out)⟩ S1 _ _ ?_
  intro u375 u376 u377 u378 u379 u380 u381 u382 u383 u384 u385 u386 u387 u388 u389 u390 u391 u392 u393 u394 u395 u396 u397 u398 u399 u400 u401 u402 u403 u404 u405 u406 u407 P6 w40 h408 hb
  subst h408; clear HB; have HB := hb; clear hb S1 iCB sCB iFB sFB iMS sMS
  refine (by assumption : ∀ (a : Act) (w : World),Code.wp _ _ _ a w → _) _ _ ?_
  go_upto_if 408 with fail
  try simp only [List.append]
  go_cut [] from 409 to 409 (fun wx => Aside0 (Below wd12.heap.size wd12 wx))
  case first =>
    go_wp2_with fail
    go_meet
    case rel => exact ⟨(by repeat first|(with_reducible first|exact HB.out|apply below_alloc|apply pw_below_drewN|apply below_drew1)|exact HB.out)⟩
  case rest =>
  clear HB
  have HB := hcut
  clear hcut
  cases q1 with
  | false =>
    clear NB
    refine (by assumption : ∀ (a : Act) (w : World),Code.wp _ _ _ a w → _) _ _ ?_
    go_upto_if 409 with fail
    refine partN_no wd12 _ ⟨(by repeat first|(with_reducible first|exact HB.out|apply below_alloc|apply pw_below_drewN|apply below_drew1)|exact HB.out)⟩ _ _ ?_
    intro Pp Pq Pr P7 P8 P9 Qb Qc Qd Qe Qf Qg Qh Qi Qj Qk Ql w41 hb
    clear HB; have HB := hb; clear hb
    cases q2 with
    | false =>
      clear EB
      refine (by assumption : ∀ (a : Act) (w : World),Code.wp _ _ _ a w → _) _ _ ?_
      go_upto_if 424 with fail
      refine partE_no wd12 _ ⟨(by repeat first|(with_reducible first|exact HB.out|apply below_alloc|apply pw_below_drewN|apply below_drew1)|exact HB.out)⟩ _ _ ?_
      intro Pp Ps Pt Pu Pv Pw Px Qm Qn Qo Qp Qq Qr Qs Qt Qu Qv Qw Qx Qy Qz Q0 Q1 Q2 Q3 Q4 Q5 Q6 Q7 Q8 Q9 Ra Rb Rc Rd Re Rf Rg Rh Ri Rj Rk Rl Rm Rn Ro Rp Rq Rr Rs Rt Ru Rv Rw Rx Ry w42 hb
      clear HB; have HB := hb; clear hb
      cases q3 with
      | false =>
        clear MB
        refine (by assumption : ∀ (a : Act) (w : World),Code.wp _ _ _ a w → _) _ _ ?_
        go_upto_if 474 with fail
        refine partM_no wd12 _ ⟨(by repeat first|(with_reducible first|exact HB.out|apply below_alloc|apply pw_below_drewN|apply below_drew1)|exact HB.out)⟩ _ _ ?_
        intro Pp Py Pz P0 P1 P2 P3 P4 P5 Rz R0 R1 R2 R3 R4 R5 R6 R7 R8 R9 Sb Sc Sd Se Sf Sg Sh Si Sj Sk Sl Sm Sn So Sp Sq Sr Ss St Su Sv Sw Sx Sy Sz S0 S2 S3 S4 S5 S6 S7 S8 S9 Ta Tb Tc Td Te Tf Tg Th Ti Tj Tk Tl w43 hb
        clear HB; have HB := hb; clear hb
        refine (by assumption : ∀ (a : Act) (w : World),Code.wp _ _ _ a w → _) _ _ ?_
        go_wp2_with fail
        go_ret
        exact ⟨rfl,below_step HB0.out (below_step HBW.out (by repeat first|(with_reducible first|exact HB.out|apply below_alloc|apply pw_below_drewN|apply below_drew1)|exact HB.out))⟩
      | true =>
        obtain ⟨p,n,N,D,rfl,rfl,rfl,g1,g2,g3,g4,g5,g6⟩ := MB.out rfl
        clear MB
        have G1 := Aside0.mk g1; have G2 := Aside0.mk g2; have G3 := Aside0.mk g3; have G5 := Aside0.mk g5; have G6 := Aside0.mk g6
        have G4 := Aside0.mk (fun (i j : Nat) (hi : i ≤ p) (hj : j ≤ p) W (h : Below wd12.heap.size wd12 W) => g4 i j hi hj W (below_step HBW.out h))
        clear g1 g2 g3 g4 g5 g6
        refine (by assumption : ∀ (a : Act) (w : World),Code.wp _ _ _ a w → _) _ _ ?_
        go_upto_if 474 with fail
        refine partM p n N D wd12 _ ⟨(by repeat first|(with_reducible first|exact HB.out|apply below_alloc|apply pw_below_drewN|apply below_drew1)|exact HB.out)⟩ G1 G2 G3 G4 G5 G6 _ _ ?_
        intro Pp Py Pz P0 P1 P2 P3 P4 P5 Rz R0 R1 R2 R3 R4 R5 R6 R7 R8 R9 Sb Sc Sd Se Sf Sg Sh Si Sj Sk Sl Sm Sn So Sp Sq Sr Ss St Su Sv Sw Sx Sy Sz S0 S2 S3 S4 S5 S6 S7 S8 S9 Ta Tb Tc Td Te Tf Tg Th Ti Tj Tk Tl w43 hb
        clear HB; have HB := hb; clear hb
        refine (by assumption : ∀ (a : Act) (w : World),Code.wp _ _ _ a w → _) _ _ ?_
        go_wp2_with fail
        go_ret
        exact ⟨rfl,below_step HB0.out (below_step HBW.out (by repeat first|(with_reducible first|exact HB.out|apply below_alloc|apply pw_below_drewN|apply below_drew1)|exact HB.out))⟩
    | true =>
      obtain ⟨sl,sr,mn,rfl,rfl,rfl,g4,g5,g6,g7⟩ := EB.out rfl
      clear EB
      have G4 := Aside0.mk g4
      have G5 := Aside0.mk (fun W (h : Below wd12.heap.size wd12 W) => g5 A11 k11 W (Kd.C_below HD11.out h) HL11.out)
      have G6 := Aside0.mk (fun W (h : Below wd12.heap.size wd12 W) => g6 A11 k11 W (Kd.C_below HD11.out h) HL11.out)
      have G7 := Aside0.mk (fun W (h : Below wd12.heap.size wd12 W) => g7 W (below_step HBW.out h))
      clear g4 g5 g6 g7
      refine (by assumption : ∀ (a : Act) (w : World),Code.wp _ _ _ a w → _) _ _ ?_
      go_upto_if 424 with fail
      refine partE fi sl sr mn A11 k11 wd12 _ ⟨(by repeat first|(with_reducible first|exact HB.out|apply below_alloc|apply pw_below_drewN|apply below_drew1)|exact HB.out)⟩ G4.out G5 G6 G7 _ _ ?_
      intro Pp Ps Pt Pu Pv Pw Px Qm Qn Qo Qp Qq Qr Qs Qt Qu Qv Qw Qx Qy Qz Q0 Q1 Q2 Q3 Q4 Q5 Q6 Q7 Q8 Q9 Ra Rb Rc Rd Re Rf Rg Rh Ri Rj Rk Rl Rm Rn Ro Rp Rq Rr Rs Rt Ru Rv Rw Rx Ry w42 hb
      clear HB; have HB := hb; clear hb
      clear G4 G5 G6 G7
      cases q3 with
      | false =>
        clear MB
        refine (by assumption : ∀ (a : Act) (w : World),Code.wp _ _ _ a w → _) _ _ ?_
        go_upto_if 474 with fail
        refine partM_no wd12 _ ⟨(by repeat first|(with_reducible first|exact HB.out|apply below_alloc|apply pw_below_drewN|apply below_drew1)|exact HB.out)⟩ _ _ ?_
        intro Pp Py Pz P0 P1 P2 P3 P4 P5 Rz R0 R1 R2 R3 R4 R5 R6 R7 R8 R9 Sb Sc Sd Se Sf Sg Sh Si Sj Sk Sl Sm Sn So Sp Sq Sr Ss St Su Sv Sw Sx Sy Sz S0 S2 S3 S4 S5 S6 S7 S8 S9 Ta Tb Tc Td Te Tf Tg Th Ti Tj Tk Tl w43 hb
        clear HB; have HB := hb; clear hb
        refine (by assumption : ∀ (a : Act) (w : World),Code.wp _ _ _ a w → _) _ _ ?_
        go_wp2_with fail
        go_ret
        exact ⟨rfl,below_step HB0.out (below_step HBW.out (by repeat first|(with_reducible first|exact HB.out|apply below_alloc|apply pw_below_drewN|apply below_drew1)|exact HB.out))⟩
      | true =>
        obtain ⟨p,n,N,D,rfl,rfl,rfl,g1,g2,g3,g4,g5,g6⟩ := MB.out rfl
        clear MB
        have G1 := Aside0.mk g1; have G2 := Aside0.mk g2; have G3 := Aside0.mk g3; have G5 := Aside0.mk g5; have G6 := Aside0.mk g6
        have G4 := Aside0.mk (fun (i j : Nat) (hi : i ≤ p) (hj : j ≤ p) W (h : Below wd12.heap.size wd12 W) => g4 i j hi hj W (below_step HBW.out h))
        clear g1 g2 g3 g4 g5 g6
        refine (by assumption : ∀ (a : Act) (w : World),Code.wp _ _ _ a w → _) _ _ ?_
        go_upto_if 474 with fail
        refine partM p n N D wd12 _ ⟨(by repeat first|(with_reducible first|exact HB.out|apply below_alloc|apply pw_below_drewN|apply below_drew1)|exact HB.out)⟩ G1 G2 G3 G4 G5 G6 _ _ ?_
        intro Pp Py Pz P0 P1 P2 P3 P4 P5 Rz R0 R1 R2 R3 R4 R5 R6 R7 R8 R9 Sb Sc Sd Se Sf Sg Sh Si Sj Sk Sl Sm Sn So Sp Sq Sr Ss St Su Sv Sw Sx Sy Sz S0 S2 S3 S4 S5 S6 S7 S8 S9 Ta Tb Tc Td Te Tf Tg Th Ti Tj Tk Tl w43 hb
        clear HB; have HB := hb; clear hb
        refine (by assumption : ∀ (a : Act) (w : World),Code.wp _ _ _ a w → _) _ _ ?_
        go_wp2_with fail
        go_ret
        exact ⟨rfl,below_step HB0.out (below_step HBW.out (by repeat first|(with_reducible first|exact HB.out|apply below_alloc|apply pw_below_drewN|apply below_drew1)|exact HB.out))⟩
  | true =>
    have g3 := NB.out rfl
    clear NB
    have G3 := Aside0.mk (fun W (h : Below wd12.heap.size wd12 W) => g3 W (below_step HBW.out h))
    clear g3
    refine (by assumption : ∀ (a : Act) (w : World),Code.wp _ _ _ a w → _) _ _ ?_
    go_upto_if 409 with fail
    refine partN m lf bh ct wd12 _ ⟨(by repeat first|(with_reducible first|exact HB.out|apply below_alloc|apply pw_below_drewN|apply below_drew1)|exact HB.out)⟩ G3 _ _ ?_
    intro Pp Pq Pr P7 P8 P9 Qb Qc Qd Qe Qf Qg Qh Qi Qj Qk Ql w41 hb
    clear HB; have HB := hb; clear hb
    clear G3
    cases q2 with
    | false =>
      clear EB
      refine (by assumption : ∀ (a : Act) (w : World),Code.wp _ _ _ a w → _) _ _ ?_
      go_upto_if 424 with fail
      refine partE_no wd12 _ ⟨(by repeat first|(with_reducible first|exact HB.out|apply below_alloc|apply pw_below_drewN|apply below_drew1)|exact HB.out)⟩ _ _ ?_
      intro Pp Ps Pt Pu Pv Pw Px Qm Qn Qo Qp Qq Qr Qs Qt Qu Qv Qw Qx Qy Qz Q0 Q1 Q2 Q3 Q4 Q5 Q6 Q7 Q8 Q9 Ra Rb Rc Rd Re Rf Rg Rh Ri Rj Rk Rl Rm Rn Ro Rp Rq Rr Rs Rt Ru Rv Rw Rx Ry w42 hb
      clear HB; have HB := hb; clear hb
      cases q3 with
      | false =>
        clear MB
        refine (by assumption : ∀ (a : Act) (w : World),Code.wp _ _ _ a w → _) _ _ ?_
        go_upto_if 474 with fail
        refine partM_no wd12 _ ⟨(by repeat first|(with_reducible first|exact HB.out|apply below_alloc|apply pw_below_drewN|apply below_drew1)|exact HB.out)⟩ _ _ ?_
        intro Pp Py Pz P0 P1 P2 P3 P4 P5 Rz R0 R1 R2 R3 R4 R5 R6 R7 R8 R9 Sb Sc Sd Se Sf Sg Sh Si Sj Sk Sl Sm Sn So Sp Sq Sr Ss St Su Sv Sw Sx Sy Sz S0 S2 S3 S4 S5 S6 S7 S8 S9 Ta Tb Tc Td Te Tf Tg Th Ti Tj Tk Tl w43 hb
        clear HB; have HB := hb; clear hb
        refine (by assumption : ∀ (a : Act) (w : World),Code.wp _ _ _ a w → _) _ _ ?_
        go_wp2_with fail
        go_ret
        exact ⟨rfl,below_step HB0.out (below_step HBW.out (by repeat first|(with_reducible first|exact HB.out|apply below_alloc|apply pw_below_drewN|apply below_drew1)|exact HB.out))⟩
      | true =>
        obtain ⟨p,n,N,D,rfl,rfl,rfl,g1,g2,g3,g4,g5,g6⟩ := MB.out rfl
        clear MB
        have G1 := Aside0.mk g1; have G2 := Aside0.mk g2; have G3 := Aside0.mk g3; have G5 := Aside0.mk g5; have G6 := Aside0.mk g6
        have G4 := Aside0.mk (fun (i j : Nat) (hi : i ≤ p) (hj : j ≤ p) W (h : Below wd12.heap.size wd12 W) => g4 i j hi hj W (below_step HBW.out h))
        clear g1 g2 g3 g4 g5 g6
        refine (by assumption : ∀ (a : Act) (w : World),Code.wp _ _ _ a w → _) _ _ ?_
        go_upto_if 474 with fail
        refine partM p n N D wd12 _ ⟨(by repeat first|(with_reducible first|exact HB.out|apply below_alloc|apply pw_below_drewN|apply below_drew1)|exact HB.out)⟩ G1 G2 G3 G4 G5 G6 _ _ ?_
        intro Pp Py Pz P0 P1 P2 P3 P4 P5 Rz R0 R1 R2 R3 R4 R5 R6 R7 R8 R9 Sb Sc Sd Se Sf Sg Sh Si Sj Sk Sl Sm Sn So Sp Sq Sr Ss St Su Sv Sw Sx Sy Sz S0 S2 S3 S4 S5 S6 S7 S8 S9 Ta Tb Tc Td Te Tf Tg Th Ti Tj Tk Tl w43 hb
        clear HB; have HB := hb; clear hb
        refine (by assumption : ∀ (a : Act) (w : World),Code.wp _ _ _ a w → _) _ _ ?_
        go_wp2_with fail
        go_ret
        exact ⟨rfl,below_step HB0.out (below_step HBW.out (by repeat first|(with_reducible first|exact HB.out|apply below_alloc|apply pw_below_drewN|apply below_drew1)|exact HB.out))⟩
    | true =>
      obtain ⟨sl,sr,mn,rfl,rfl,rfl,g4,g5,g6,g7⟩ := EB.out rfl
      clear EB
      have G4 := Aside0.mk g4
      have G5 := Aside0.mk (fun W (h : Below wd12.heap.size wd12 W) => g5 A11 k11 W (Kd.C_below HD11.out h) HL11.out)
      have G6 := Aside0.mk (fun W (h : Below wd12.heap.size wd12 W) => g6 A11 k11 W (Kd.C_below HD11.out h) HL11.out)
      have G7 := Aside0.mk (fun W (h : Below wd12.heap.size wd12 W) => g7 W (below_step HBW.out h))
      clear g4 g5 g6 g7
      refine (by assumption : ∀ (a : Act) (w : World),Code.wp _ _ _ a w → _) _ _ ?_
      go_upto_if 424 with fail
      refine partE fi sl sr mn A11 k11 wd12 _ ⟨(by repeat first|(with_reducible first|exact HB.out|apply below_alloc|apply pw_below_drewN|apply below_drew1)|exact HB.out)⟩ G4.out G5 G6 G7 _ _ ?_
      intro Pp Ps Pt Pu Pv Pw Px Qm Qn Qo Qp Qq Qr Qs Qt Qu Qv Qw Qx Qy Qz Q0 Q1 Q2 Q3 Q4 Q5 Q6 Q7 Q8 Q9 Ra Rb Rc Rd Re Rf Rg Rh Ri Rj Rk Rl Rm Rn Ro Rp Rq Rr Rs Rt Ru Rv Rw Rx Ry w42 hb
      clear HB; have HB := hb; clear hb
      clear G4 G5 G6 G7
      cases q3 with
      | false =>
        clear MB
        refine (by assumption : ∀ (a : Act) (w : World),Code.wp _ _ _ a w → _) _ _ ?_
        go_upto_if 474 with fail
        refine partM_no wd12 _ ⟨(by repeat first|(with_reducible first|exact HB.out|apply below_alloc|apply pw_below_drewN|apply below_drew1)|exact HB.out)⟩ _ _ ?_
        intro Pp Py Pz P0 P1 P2 P3 P4 P5 Rz R0 R1 R2 R3 R4 R5 R6 R7 R8 R9 Sb Sc Sd Se Sf Sg Sh Si Sj Sk Sl Sm Sn So Sp Sq Sr Ss St Su Sv Sw Sx Sy Sz S0 S2 S3 S4 S5 S6 S7 S8 S9 Ta Tb Tc Td Te Tf Tg Th Ti Tj Tk Tl w43 hb
        clear HB; have HB := hb; clear hb
        refine (by assumption : ∀ (a : Act) (w : World),Code.wp _ _ _ a w → _) _ _ ?_
        go_wp2_with fail
        go_ret
        exact ⟨rfl,below_step HB0.out (below_step HBW.out (by repeat first|(with_reducible first|exact HB.out|apply below_alloc|apply pw_below_drewN|apply below_drew1)|exact HB.out))⟩
      | true =>
        obtain ⟨p,n,N,D,rfl,rfl,rfl,g1,g2,g3,g4,g5,g6⟩ := MB.out rfl
        clear MB
        have G1 := Aside0.mk g1; have G2 := Aside0.mk g2; have G3 := Aside0.mk g3; have G5 := Aside0.mk g5; have G6 := Aside0.mk g6
        have G4 := Aside0.mk (fun (i j : Nat) (hi : i ≤ p) (hj : j ≤ p) W (h : Below wd12.heap.size wd12 W) => g4 i j hi hj W (below_step HBW.out h))
        clear g1 g2 g3 g4 g5 g6
        refine (by assumption : ∀ (a : Act) (w : World),Code.wp _ _ _ a w → _) _ _ ?_
        go_upto_if 474 with fail
        refine partM p n N D wd12 _ ⟨(by repeat first|(with_reducible first|exact HB.out|apply below_alloc|apply pw_below_drewN|apply below_drew1)|exact HB.out)⟩ G1 G2 G3 G4 G5 G6 _ _ ?_
        intro Pp Py Pz P0 P1 P2 P3 P4 P5 Rz R0 R1 R2 R3 R4 R5 R6 R7 R8 R9 Sb Sc Sd Se Sf Sg Sh Si Sj Sk Sl Sm Sn So Sp Sq Sr Ss St Su Sv Sw Sx Sy Sz S0 S2 S3 S4 S5 S6 S7 S8 S9 Ta Tb Tc Td Te Tf Tg Th Ti Tj Tk Tl w43 hb
        clear HB; have HB := hb; clear hb
        refine (by assumption : ∀ (a : Act) (w : World),Code.wp _ _ _ a w → _) _ _ ?_
        go_wp2_with fail
        go_ret
        exact ⟨rfl,below_step HB0.out (below_step HBW.out (by repeat first|(with_reducible first|exact HB.out|apply below_alloc|apply pw_below_drewN|apply below_drew1)|exact HB.out))⟩
end Go.Proofs.Ytleacijhpkogpac.HBigT
